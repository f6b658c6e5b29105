/- What is known, out of its datum; the ways as the list that both texts answer, and its plain laws. -/
import Derived.Test.YtfbaikkadndckaaSl
import Derived.Test.YtfbaikkadndckaaSr
import Derived.Test.YtfbaikkadndckaaEvN
namespace Go.Proofs.Ytfbaikkadndckaa.Ev
open Go
attribute [local congr] ob_congr sq_congr cd_congr ite_congr1 iter_congr it1_congr jumps_congr
set_option maxRecDepth 100000
set_option linter.unusedSimpArgs false
set_option linter.unusedVariables false
def knOf (x : D) : Kn := ⟨intOf (hdD x), intOf (hdD (hdD (tlD x))), fun i => intOf (arrF (hdD (tlD (hdD (tlD x)))) i), fun n i => entU (arrF (arrF (hdD (tlD (tlD x))) n) i), fun n i => entI (arrF (arrF (hdD (tlD (tlD x))) n) i)⟩
abbrev knV (k : Kn) : D := knD k.self k.up k.c k.tD k.tP
theorem kn_of {x : D} (h : x.shape = shK) (hw : x.WF) : x = knV (knOf x) := by
  obtain ⟨a, b, rfl, h1, h2⟩ := of_cons h
  obtain ⟨wa, wb⟩ := hw
  obtain ⟨c, d, rfl, h3, h4⟩ := of_cons h2
  obtain ⟨wc, wd⟩ := wb
  obtain ⟨c1, c2, rfl, h5, h6⟩ := of_cons h3
  obtain ⟨wc1, wc2⟩ := wc
  obtain ⟨c3, c4, rfl, h7, h8⟩ := of_cons h6
  obtain ⟨wc3, wc4⟩ := wc2
  obtain ⟨t, z, rfl, h9, h10⟩ := of_cons h4
  obtain ⟨wt, wz⟩ := wd
  obtain ⟨f, rfl, hf⟩ := of_arr h7 wc3
  obtain ⟨g, rfl, hg⟩ := of_arr h9 wt
  obtain rfl := of_nil h8
  obtain rfl := of_nil h10
  show D.cons a (.cons (.cons c1 (.cons (.arr 16 _ f) .nil)) (.cons (.arr 16 shT g) .nil)) = .cons (dI (intOf a)) (.cons (.cons (dI (intOf c1)) (.cons (.arr 16 _ fun i => .s (.int .u32 (intOf (f i)))) .nil)) (.cons (.arr 16 shT fun n => treeD (fun i => entU (arrF (g n) i)) (fun i => entI (arrF (g n) i))) .nil))
  refine congr (congrArg D.cons (of_cell h1)) (congr (congrArg D.cons (congr (congrArg D.cons (of_cell h5)) (congrArg (fun q => D.cons q .nil) (congrArg (D.arr 16 _) (funext fun i => of_cell (hf i).2))))) (congrArg (fun q => D.cons q .nil) (congrArg (D.arr 16 shT) (funext fun n => tree_of (hg n).2 (hg n).1))))
theorem knOf_knV (k : Kn) : knOf (knV k) = k := rfl
/-- The ways to a destination. -/
def wList (k : Kn) (j : Int) : List (Int × Int) := if (right j && (j != k.self)) = true then waysS k j (listTo k.up 16).length else []
abbrev ws (l : List (Int × Int)) : List D := l.map fun x => wayD x.1 x.2
theorem wList_ok {k : Kn} {j : Int} (h : (right j && (j != k.self)) = true) : (wList k j).Perm (((listTo k.up 16).filter (wayC k j)).map (wayOf k j)) ∧ (wList k j).Pairwise leW := by
  unfold wList
  rw [if_pos h]
  have := waysS_ok k j _ (Nat.le_refl _)
  unfold waysU at this
  rw [List.take_length] at this
  exact this
theorem wList_no {k : Kn} {j : Int} (h : (right j && (j != k.self)) = false) : wList k j = [] := by
  unfold wList; rw [h]; rfl
theorem wList_strict (k : Kn) (j : Int) : (wList k j).Pairwise fun x y => x.2 < y.2 ∨ (x.2 = y.2 ∧ x.1 < y.1) := by
  cases h : (right j && (j != k.self)) with
  | false => rw [wList_no h]; exact List.Pairwise.nil
  | true =>
    obtain ⟨h1, h2⟩ := wList_ok h
    have hn : ((wList k j).map Prod.fst).Nodup := by
      refine (h1.map Prod.fst).nodup_iff.2 ?_
      rw [List.map_map]
      have e : (Prod.fst ∘ wayOf k j) = id := rfl
      rw [e, List.map_id]
      exact ((listTo_rise k.up 16).filter _).imp fun h => by omega
    have hn2 : (wList k j).Pairwise fun x y => x.1 ≠ y.1 := by
      have := hn
      unfold List.Nodup at this
      rwa [List.pairwise_map] at this
    refine (h2.and hn2).imp fun {x y} hxy => ?_
    unfold leW at hxy
    omega
theorem wList_len (k : Kn) (j : Int) : (wList k j).length ≤ 16 := by
  cases h : (right j && (j != k.self)) with
  | false => rw [wList_no h]; exact Nat.zero_le _
  | true =>
    rw [(wList_ok h).1.length_eq, List.length_map]
    exact Nat.le_trans (List.length_filter_le _ _) (listTo_len k.up 16)
/-- A neighbour's way is among them; the first one is not farther. -/
theorem wList_first {k : Kn} {j n : Int} (h : (right j && (j != k.self)) = true) (hn : n ∈ listTo k.up 16) (hc : wayC k j n = true) : ∃ x l, wList k j = x :: l ∧ x.2 ≤ (wayOf k j n).2 := by
  obtain ⟨h1, h2⟩ := wList_ok h
  have hm : wayOf k j n ∈ wList k j := h1.mem_iff.2 (List.mem_map_of_mem (List.mem_filter.2 ⟨hn, hc⟩))
  cases e : wList k j with
  | nil => rw [e] at hm; cases hm
  | cons x l =>
    rw [e] at hm h2
    refine ⟨x, l, rfl, ?_⟩
    rcases List.mem_cons.1 hm with hm | hm
    · rw [hm]; exact Int.le_refl _
    · have := List.rel_of_pairwise_cons h2 hm
      unfold leW at this
      omega
/-- What both answer. -/
def wyRes : List V → Option V
  | [.d x, .d (.s (.int .i64 j))] => if x.shape = shK then some (.sl .ro shW (ws (wList (knOf x) j))) else none
  | _ => none
def wyB (f : Nat) : Bool := f == 53 || f == 54
def xw (f : Nat) (l : List V) : Option V :=
  match wyB f with
  | true => wyRes l
  | false => xt f l
end Go.Proofs.Ytfbaikkadndckaa.Ev
