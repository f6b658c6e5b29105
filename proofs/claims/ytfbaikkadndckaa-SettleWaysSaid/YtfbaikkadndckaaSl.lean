/- The ways as plain lists: as they come, and sorted. -/
import Derived.Test.YtfbaikkadndckaaSe
namespace Go.Proofs.Ytfbaikkadndckaa.Ev
open Go
attribute [local congr] ob_congr sq_congr cd_congr ite_congr1 iter_congr it1_congr jumps_congr
set_option maxRecDepth 100000
set_option linter.unusedSimpArgs false
set_option linter.unusedVariables false
def leW (x y : Int × Int) : Prop := x.2 < y.2 ∨ (x.2 = y.2 ∧ x.1 ≤ y.1)
/-- Where it goes, walking down from k. -/
def atW (w : Int × Int) (l : List (Int × Int)) : Nat → Nat
  | 0 => 0
  | k + 1 => if w.2 < (l.getD k (0, 0)).2 then atW w l k else k + 1
def insW (w : Int × Int) (l : List (Int × Int)) : List (Int × Int) := l.take (atW w l l.length) ++ w :: l.drop (atW w l l.length)
theorem insW_perm (w : Int × Int) (l : List (Int × Int)) : (insW w l).Perm (w :: l) := by
  unfold insW
  refine List.perm_middle.trans ?_
  rw [List.take_append_drop]
theorem atW_le (w : Int × Int) (l : List (Int × Int)) : ∀ k, atW w l k ≤ k
  | 0 => Nat.le_refl _
  | k + 1 => by
    unfold atW
    split
    · exact Nat.le_succ_of_le (atW_le w l k)
    · exact Nat.le_refl _
theorem atW_up (w : Int × Int) (l : List (Int × Int)) : ∀ k i, atW w l k ≤ i → i < k → w.2 < (l.getD i (0, 0)).2
  | 0, i, _, h => by omega
  | k + 1, i, h1, h2 => by
    unfold atW at h1
    split at h1
    · rename_i h
      by_cases e : i = k
      · subst e; exact h
      · exact atW_up w l k i h1 (by omega)
    · omega
theorem atW_at (w : Int × Int) (l : List (Int × Int)) : ∀ k, 0 < atW w l k → ¬ w.2 < (l.getD (atW w l k - 1) (0, 0)).2
  | 0, h => by simp [atW] at h
  | k + 1, h => by
    unfold atW at h ⊢
    split
    · rename_i q
      rw [if_pos q] at h
      exact atW_at w l k h
    · rename_i q
      simpa using q
theorem insW_sorted {w : Int × Int} {l : List (Int × Int)} (hl : l.Pairwise leW) (hn : ∀ x, x ∈ l → x.1 < w.1) : (insW w l).Pairwise leW := by
  unfold insW
  have hle := atW_le w l l.length
  have hup := atW_up w l l.length
  have hat := atW_at w l l.length
  generalize atW w l l.length = m at hle hup hat
  rw [List.pairwise_append]
  refine ⟨hl.sublist (List.take_sublist _ _), ?_, ?_⟩
  · rw [List.pairwise_cons]
    refine ⟨fun x hx => ?_, hl.sublist (List.drop_sublist _ _)⟩
    obtain ⟨i, hi, e⟩ := List.getElem_of_mem hx
    rw [List.getElem_drop] at e
    have hi2 : m + i < l.length := by rw [List.length_drop] at hi; omega
    have := hup (m + i) (by omega) hi2
    rw [show l.getD (m + i) (0, 0) = l[m + i] by simp [List.getD, List.getElem?_eq_getElem hi2], e] at this
    exact Or.inl this
  · intro x hx y hy
    have hxl : x ∈ l := List.mem_of_mem_take hx
    rcases List.mem_cons.1 hy with rfl | hy
    · have h1 := hn x hxl
      obtain ⟨i, hi, e⟩ := List.getElem_of_mem hx
      rw [List.getElem_take] at e
      have hi2 : i < m := by rw [List.length_take] at hi; omega
      have hm : 0 < m := by omega
      have hml : m - 1 < l.length := by omega
      have h2 := hat hm
      rw [show l.getD (m - 1) (0, 0) = l[m - 1] by simp [List.getD, List.getElem?_eq_getElem hml]] at h2
      have h3 : x = l[m - 1] ∨ leW x l[m - 1] := by
        by_cases e2 : i = m - 1
        · left; subst e2; exact e.symm
        · right; rw [← e]; exact (List.pairwise_iff_getElem.1 hl) i (m - 1) (by omega) hml (by omega)
      unfold leW at h3 ⊢
      rcases h3 with h3 | h3
      · rw [← h3] at h2; omega
      · omega
    · obtain ⟨i, hi, e⟩ := List.getElem_of_mem hx
      obtain ⟨j, hj, e'⟩ := List.getElem_of_mem hy
      rw [List.getElem_take] at e
      rw [List.getElem_drop] at e'
      rw [← e, ← e']
      rw [List.length_take] at hi
      rw [List.length_drop] at hj
      exact (List.pairwise_iff_getElem.1 hl) i (m + j) (by omega) (by omega) (by omega)
theorem listTo_rise (s : Int) (k : Nat) : (listTo s k).Pairwise (· < ·) := by
  unfold listTo
  rw [List.pairwise_map]
  exact (List.pairwise_lt_range.filter _).imp fun h => by omega
def wayC (k : Kn) (j n : Int) : Bool := (n != k.self) && ((decide (1 ≤ kc k n) && decide (kc k n ≤ 65536)) && decide (tol k n j ≤ 983040))
def wayOf (k : Kn) (j n : Int) : Int × Int := (n, IntKind.u32.wrap (tol k n j + kc k n))
def waysU (k : Kn) (j : Int) (i : Nat) : List (Int × Int) := (((listTo k.up 16).take i).filter (wayC k j)).map (wayOf k j)
def waysS (k : Kn) (j : Int) (i : Nat) : List (Int × Int) := upto (fun i l => if wayC k j ((listTo k.up 16).getD i 0) = true then insW (wayOf k j ((listTo k.up 16).getD i 0)) l else l) [] i
theorem waysU_succ (k : Kn) (j : Int) (i : Nat) {n : Int} (h : (listTo k.up 16)[i]? = some n) : waysU k j (i + 1) = if wayC k j n = true then waysU k j i ++ [wayOf k j n] else waysU k j i := by
  unfold waysU
  obtain ⟨hi, e⟩ := List.getElem?_eq_some_iff.1 h
  rw [List.take_succ_eq_append_getElem hi, List.filter_append, List.map_append, e]
  by_cases q : wayC k j n = true <;> simp [q]
theorem waysS_succ (k : Kn) (j : Int) (i : Nat) {n : Int} (h : (listTo k.up 16)[i]? = some n) : waysS k j (i + 1) = if wayC k j n = true then insW (wayOf k j n) (waysS k j i) else waysS k j i := by
  have e : (listTo k.up 16).getD i 0 = n := by simp [List.getD, h]
  subst e; rfl
theorem waysU_mem {k : Kn} {j : Int} {i : Nat} {x : Int × Int} (h : x ∈ waysU k j i) : x.1 ∈ (listTo k.up 16).take i := by
  unfold waysU at h
  obtain ⟨n, hn, rfl⟩ := List.mem_map.1 h
  exact (List.mem_filter.1 hn).1
theorem waysS_ok (k : Kn) (j : Int) (i : Nat) (hi : i ≤ (listTo k.up 16).length) : (waysS k j i).Perm (waysU k j i) ∧ (waysS k j i).Pairwise leW := by
  induction i with
  | zero => exact ⟨List.Perm.refl _, List.Pairwise.nil⟩
  | succ i ih =>
    obtain ⟨h1, h2⟩ := ih (by omega)
    have hlt : i < (listTo k.up 16).length := by omega
    have e := List.getElem?_eq_getElem hlt
    rw [waysS_succ k j i e, waysU_succ k j i e]
    by_cases q : wayC k j (listTo k.up 16)[i] = true
    · rw [if_pos q, if_pos q]
      refine ⟨(insW_perm _ _).trans ?_, insW_sorted h2 fun x hx => ?_⟩
      · exact ((List.perm_append_singleton _ _).trans (h1.symm.cons _)).symm
      · have hm := waysU_mem (h1.mem_iff.1 hx)
        obtain ⟨m, hm1, em⟩ := List.getElem_of_mem hm
        rw [List.getElem_take] at em
        rw [List.length_take] at hm1
        rw [← em]
        exact (List.pairwise_iff_getElem.1 (listTo_rise k.up 16)) m i (by omega) hlt (by omega)
    · rw [if_neg q, if_neg q]; exact ⟨h1, h2⟩
end Go.Proofs.Ytfbaikkadndckaa.Ev
