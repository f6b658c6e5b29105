/- LpaSyncs: views, and who is waited for, of any node; two that tell each other all, till nothing is pending, are in sync, and ask nobody: the statement, and its card. It holds of every input; no condition but the tables that the card ties. -/
import Derived.Test.YtjceimcepogkaaaGreatDoorKs
import Derived.Test.YtjceimcepogkaaaGreatDoorOpn
import Derived.Test.YtjceimcepogkaaaGreatDoorRows
import Derived.Test.YtjceimcepogkaaaGreatDoorCards
import Derived.Test.YtjceimcepogkaaaGreatDoorTie
import Derived.ProofKit
import Derived.OpenShut
import Derived.Deep.DeepHandedRow
import Derived.Lib.LaidTab
namespace Go.Proofs.YtjceimcepogkaaaGreatDoor.Ev
open Go
attribute [local congr] ob_congr sq_congr cd_congr ite_congr1 iter_congr it1_congr jumps_congr
set_option maxRecDepth 100000
set_option linter.unusedSimpArgs false
set_option linter.unusedVariables false
section
structure ItmOK (x : Itm) : Prop where
  d : inU x.d
  p : inI x.p
structure OpOK (o : OpS) : Prop where
  cost : inU o.cost
  its : ∀ x, x ∈ o.its → ItmOK x
open Go.ChangeShapes Go.WideShapes Go.ChangeAt
section
variable {H : Type} {enc : TypeId × Value → H} {P : Program} {w : World} {base : Nat} {spare : Nat → Bool} {held : Bool}
/-- A row that came in, element by element. -/
theorem read_row {t e : TypeId} {sh : Sh} {n : Nat} {v : Value} {y : DataW H × List MemPlace} {Q : D → Prop} (ht : P.underlying t = some (.slice e)) (hce : P.cellsOf e = sh.size) (hpos : 0 < sh.size)
    (hmk : ∀ cs, (∃ y n, DataW.trod enc P w base spare held n e cs = some y) → ∃ x : D, x.WF ∧ x.shape = sh ∧ x.flat = cs ∧ Q x)
    (hd : DataW.trod enc P w base spare held n t [v] = some y) (hv : ∀ a cap, v = .slice (some a) 0 cap → a.spot = none ∧ ∃ row cells, w.shape? a.block = some (row, cells)) :
    ∃ es : List D, RS w w.heap.size sh es v ∧ (∀ x, x ∈ es → Q x) ∧ es.length ≤ maxLen := by
  rcases DataW.trod_slice ht hd with ⟨h, _⟩ | ⟨a, len, cap, elems, rest, m, _, h, _, hb, hl, hm, hlen, hel, _⟩
  · simp at h; subst h
    exact ⟨[], ⟨fun x hx => by simp at hx, Or.inl ⟨rfl, rfl⟩⟩, fun x hx => by simp at hx, Nat.zero_le _⟩
  · simp at h; subst h
    have each : ∀ i, i < len → ∃ cs, w.cells? base (a.add (i * sh.size)) sh.size = some cs ∧ ∃ x : D, x.WF ∧ x.shape = sh ∧ x.flat = cs ∧ Q x := by
      intro i hi
      have p := hel i hi
      obtain ⟨z, hz⟩ : ∃ z, elems[i]? = some z := ⟨elems[i], by simp [hlen, hi]⟩
      rw [hz, hce] at p
      simp only [Option.bind_eq_some_iff] at p
      obtain ⟨cs, h1, h2⟩ := p
      exact ⟨cs, h1, hmk cs ⟨_, _, h2⟩⟩
    have hh : a.spot = none ∧ ∃ arr T fr, w.heap[a.block]? = some (.cells arr T fr) := by
      by_cases h0 : 0 < len
      · obtain ⟨cs, h1, _⟩ := each 0 h0
        have q := World.cells?_some h1
        have q3 := q.2.2 0 hpos
        rw [List.getElem?_eq_getElem (by omega)] at q3
        have e0 : (a.add (0 * sh.size)).add 0 = a := by simp [Addr.add]
        rw [e0] at q3
        unfold World.cell? at q3
        split at q3
        · rename_i c T fr he
          split at q3
          · cases q3
          · rename_i hs; exact ⟨by simpa using hs, _, _, _, he⟩
        · cases q3
      · obtain rfl : len = 0 := by omega
        obtain ⟨h1, row, cells, h2⟩ := hv a cap rfl
        refine ⟨h1, ?_⟩
        unfold World.shape? at h2
        split at h2
        · rename_i c T fr he; exact ⟨_, _, _, he⟩
        · cases h2
    obtain ⟨g, o, sp⟩ := a
    obtain ⟨hsp, arr, T, fr, hcs⟩ := hh
    obtain rfl : sp = none := hsp
    simp only [add_plain] at each
    have hcs : w.heap[g]? = some (.cells arr T fr) := hcs
    have hlt : g < w.heap.size := (Array.getElem?_eq_some_iff.1 hcs).1
    obtain ⟨f, hf⟩ : ∃ f : Nat → D, ∀ i, i < len → ∃ cs, w.cells? base ⟨g, o + i * sh.size, none⟩ sh.size = some cs ∧ (f i).WF ∧ (f i).shape = sh ∧ (f i).flat = cs ∧ Q (f i) := by
      refine ⟨fun i => if h : i < len then Classical.choose (Classical.choose_spec (each i h)).2 else .nil, fun i hi => ?_⟩
      simp only [dif_pos hi]
      exact ⟨Classical.choose (each i hi), (Classical.choose_spec (each i hi)).1, Classical.choose_spec (Classical.choose_spec (each i hi)).2⟩
    have hgood : Good sh ((List.range len).map f) := by
      intro x hx
      obtain ⟨i, hi, rfl⟩ := List.mem_map.1 hx
      obtain ⟨cs, _, h2, h3, _⟩ := hf i (by simpa using hi)
      exact ⟨h2, h3⟩
    refine ⟨(List.range len).map f, ⟨hgood, Or.inr ⟨g, o, cap, arr, T, fr, hlt, by simp; omega, by simp, hcs, fun j v hj => ?_⟩⟩, fun x hx => ?_, by simp; omega⟩
    · obtain ⟨i, x, k, h1, h2, rfl, h4⟩ := flats_get hgood j v hj
      rw [List.getElem?_map, Option.map_eq_some_iff] at h1
      obtain ⟨i', h5, rfl⟩ := h1
      have hi : i < len := by have := (List.getElem?_eq_some_iff.1 h5).1; simpa using this
      obtain rfl : i = i' := by rw [List.getElem?_eq_getElem (by simpa using hi)] at h5; simpa using h5
      obtain ⟨cs, q1, _, _, q4, _⟩ := hf i hi
      rw [q4] at h4
      have q3 := (World.cells?_some q1).2.2 k h2
      rw [h4] at q3
      simp only [World.cell?, add_plain, hcs] at q3
      rw [← Nat.add_assoc]
      simpa using q3
    · obtain ⟨i, hi, rfl⟩ := List.mem_map.1 hx
      obtain ⟨cs, _, _, _, _, h5⟩ := hf i (by simpa using hi)
      exact h5
end
theorem itms_of : ∀ {es : List D}, Good shI es → (∀ x, x ∈ es → x.fits) → ∃ its : List Itm, es = itms its ∧ ∀ x, x ∈ its → ItmOK x
  | [], _, _ => ⟨[], rfl, fun x hx => by cases hx⟩
  | e :: es, hg, hf => by
    obtain ⟨its, rfl, h2⟩ := itms_of (es := es) (fun x hx => hg x (by simp [hx])) (fun x hx => hf x (by simp [hx]))
    obtain ⟨w0, s0⟩ := hg e (by simp)
    have f0 := hf e (by simp)
    obtain ⟨e1, ⟨w1, s1, f1⟩, w2, s2, f2⟩ := cons_open s0 w0 f0
    obtain ⟨e2, ⟨w3, s3, f3⟩, w4, s4, f4⟩ := cons_open s2 w2 f2
    obtain ⟨e3, ⟨w5, s5, f5⟩, w6, s6, f6⟩ := cons_open s4 w4 f4
    obtain ⟨e4, ⟨w7, s7, f7⟩, w8, s8, f8⟩ := cons_open s6 w6 f6
    obtain ⟨q1, r1⟩ := cell_i s1 f1
    obtain ⟨q2, r2⟩ := cell_i s3 f3
    obtain ⟨q3, r3⟩ := cell_u s5 f5
    obtain ⟨q4, r4⟩ := cell_i s7 f7
    refine ⟨⟨intOf (hdD e), intOf (hdD (tlD e)), intOf (hdD (tlD (tlD e))), intOf (hdD (tlD (tlD (tlD e))))⟩ :: its, ?_, fun x hx => ?_⟩
    · show e :: itms its = itD _ _ _ _ :: itms its
      congr 1
      rw [e1, e2, e3, e4, of_nil s8]
      show D.cons (hdD e) (.cons (hdD (tlD e)) (.cons (hdD (tlD (tlD e))) (.cons (hdD (tlD (tlD (tlD e)))) .nil))) = .cons (dI _) (.cons (dI _) (.cons (dU _) (.cons (dI _) .nil)))
      exact congr (congrArg D.cons q1) (congr (congrArg D.cons q2) (congr (congrArg D.cons q3) (congr (congrArg D.cons q4) rfl)))
    · rcases List.mem_cons.1 hx with rfl | hx
      · exact ⟨r3, r4⟩
      · exact h2 x hx
/-- What is known of an operation that came in. -/
def OpIn (w : World) (x : D) : Prop := ∃ o : OpS, x = opD o ∧ OpOK o ∧ (o.its ≠ [] → RS w w.heap.size shI (itms o.its) (.slice o.ad o.its.length o.cp))
section
variable {H : Type} {enc : TypeId × Value → H} {w : World} {base : Nat} {spare : Nat → Bool} {held : Bool}
theorem open_op (cs : List Value) (h : ∃ y n, DataW.trod enc Tryz.prog w base spare held n 49 cs = some y) : ∃ x : D, x.WF ∧ x.shape = shO ∧ x.flat = cs ∧ OpIn w x := by
  obtain ⟨y, n, hy⟩ := h
  obtain ⟨xs, q, rfl, rfl, hl, hx, hi⟩ := DataW.trod_struct Tryz.underlying49 hy
  have h4 : Tryz.prog.cellsOf 49 = 4 := by kernel_rfl
  rw [h4] at hl
  obtain ⟨c0, c1, c2, c3, rfl⟩ : ∃ a b c d, cs = [a, b, c, d] := by
    match cs, hl with
    | [a, b, c, d], _ => exact ⟨a, b, c, d, rfl⟩
  have n0 : Tryz.prog.cellsOf 3 = 1 := by kernel_rfl
  have n2 : Tryz.prog.cellsOf 23 = 1 := by kernel_rfl
  have n3 : Tryz.prog.cellsOf 47 = 1 := by kernel_rfl
  have get : ∀ i, i < xs.length → ∃ z, xs[i]? = some z := fun i hi => ⟨xs[i], List.getElem?_eq_getElem hi⟩
  have hx4 : xs.length = 4 := hx
  have p0 := hi 0 _ rfl
  have p1 := hi 1 _ rfl
  have p2 := hi 2 _ rfl
  have p3 := hi 3 _ rfl
  obtain ⟨z0, g0⟩ := get 0 (by omega)
  obtain ⟨z1, g1⟩ := get 1 (by omega)
  obtain ⟨z2, g2⟩ := get 2 (by omega)
  obtain ⟨z3, g3⟩ := get 3 (by omega)
  rw [g0] at p0
  rw [g1] at p1
  rw [g2] at p2
  rw [g3] at p3
  have p0 : DataW.trod enc Tryz.prog w base spare held q 3 (([c0, c1, c2, c3].drop 0).take (Tryz.prog.cellsOf 3)) = some z0 := p0
  have p1 : DataW.trod enc Tryz.prog w base spare held q 3 (([c0, c1, c2, c3].drop 1).take (Tryz.prog.cellsOf 3)) = some z1 := p1
  have p2 : DataW.trod enc Tryz.prog w base spare held q 23 (([c0, c1, c2, c3].drop 2).take (Tryz.prog.cellsOf 23)) = some z2 := p2
  have p3 : DataW.trod enc Tryz.prog w base spare held q 47 (([c0, c1, c2, c3].drop 3).take (Tryz.prog.cellsOf 47)) = some z3 := p3
  rw [n0] at p0 p1
  rw [n2] at p2
  rw [n3] at p3
  simp only [List.drop_zero, List.take_succ_cons, List.take_zero, List.drop_succ_cons] at p0 p1 p2 p3
  obtain ⟨a0, e0, _, _⟩ := DataW.trod_int Tryz.underlying3 p0
  obtain ⟨a1, e1, _, _⟩ := DataW.trod_int Tryz.underlying3 p1
  obtain ⟨a2, e2, _, hw2⟩ := DataW.trod_int Tryz.underlying23 p2
  simp only [List.cons.injEq, and_true] at e0 e1 e2
  subst e0 e1 e2
  have hc : inU a2 := by
    exact inU_of hw2
  have fin : ∀ (its : List Itm) (ad : Option Addr) (cp : Nat), c3 = .slice ad its.length cp → (∀ x, x ∈ its → ItmOK x) → (its ≠ [] → RS w w.heap.size shI (itms its) (.slice ad its.length cp)) →
      ∃ x : D, x.WF ∧ x.shape = shO ∧ x.flat = [.int .i64 a0, .int .i64 a1, .int .u32 a2, c3] ∧ OpIn w x := fun its ad cp hv hok hrs => by
    subst hv
    exact ⟨opD ⟨a0, a1, a2, its, ad, cp⟩, ⟨rfl, rfl, rfl, rfl, trivial⟩, rfl, rfl, ⟨a0, a1, a2, its, ad, cp⟩, rfl, ⟨hc, hok⟩, hrs⟩
  rcases DataW.trod_slice Tryz.underlying47 p3 with ⟨h, _⟩ | ⟨a, len, cap, elems, rest, m, _, h, _⟩
  · simp [n3] at h
    exact fin [] none 0 h (fun x hx => by cases hx) (fun h => absurd rfl h)
  · simp [n3] at h
    by_cases h0 : len = 0
    · subst h0
      exact fin [] (some a) cap h (fun x hx => by cases hx) (fun h => absurd rfl h)
    · subst h
      obtain ⟨es, hrs, hfit, _⟩ := read_row (sh := shI) (Q := fun x => x.fits) Tryz.underlying47 (by kernel_rfl) (by decide) (fun cs hcs => by
        have hok := opTy_ok 8 66 shI cs (by kernel_rfl) hcs
        exact ⟨mkD shI cs, (mkD_ok _ _).1, (mkD_ok _ _).2, mkD_flat _ _ hok, mkD_fits _ _ hok⟩) p3 (fun a' cap' he => by
        simp at he; exact absurd he.2.1 h0)
      obtain ⟨its, rfl, hok⟩ := itms_of hrs.1 hfit
      have hlen : its.length = len := by
        rcases hrs.2 with ⟨_, hu⟩ | ⟨g, o, cap', cs, T, fr, _, _, hu, _⟩
        · simp at hu
        · simp at hu; rw [itms_length] at hu; exact hu.2.1.symm
      subst hlen
      exact fin its (some a) cap rfl hok (fun _ => hrs)
theorem open_ops {r : Reach} {b0 : Nat} {v : Value} {dd : DataW H} {ps : List MemPlace} (hval : Value.okWide Tryz.prog w r b0 22 v) (hd : DataW.Trod enc Tryz.prog w base spare held 22 v dd ps) :
    ∃ ops : List OpS, RS w w.heap.size shO (ops.map opD) v ∧ ops.length ≤ maxLen ∧ ∀ o, o ∈ ops → OpOK o ∧ (o.its ≠ [] → RS w w.heap.size shI (itms o.its) (.slice o.ad o.its.length o.cp)) := by
  obtain ⟨a, len, cap, rfl⟩ := Go.WideShapes.okWide_slice Tryz.underlying22 hval
  obtain ⟨n, hn⟩ := hd
  obtain ⟨es, hrs, hq, hl⟩ := read_row (sh := shO) (Q := OpIn w) Tryz.underlying22 (by kernel_rfl) (by decide) open_op hn (fun a' cap' he => by
    simp at he
    obtain ⟨rfl, rfl, rfl⟩ := he
    simp only [Value.okWide, Tryz.underlying22, Cell.okWide, Cell.ok, World.has] at hval
    obtain ⟨_, _, _, h1, row, cells, h2, _⟩ := hval
    exact ⟨h1, row, cells, h2⟩)
  have key : ∀ es : List D, (∀ x, x ∈ es → OpIn w x) → ∃ ops : List OpS, es = ops.map opD ∧ ∀ o, o ∈ ops → OpOK o ∧ (o.its ≠ [] → RS w w.heap.size shI (itms o.its) (.slice o.ad o.its.length o.cp)) := by
    intro es
    induction es with
    | nil => intro _; exact ⟨[], rfl, fun o ho => by cases ho⟩
    | cons x es ih =>
      intro h
      obtain ⟨ops, rfl, h2⟩ := ih fun y hy => h y (by simp [hy])
      obtain ⟨o, rfl, h3, h4⟩ := h x (by simp)
      exact ⟨o :: ops, rfl, fun o' ho => by
        rcases List.mem_cons.1 ho with rfl | ho
        · exact ⟨h3, h4⟩
        · exact h2 o' ho⟩
  obtain ⟨ops, rfl, h2⟩ := key es hq
  exact ⟨ops, hrs, by simpa using hl, h2⟩
end
end
section
/-- What is read through a slice in a world. -/
def Reads (W : World) (v : Value) (its : List Itm) : Prop := its ≠ [] ∧ RS W W.heap.size shI (itms its) v ∧ ∀ x, x ∈ its → ItmOK x
noncomputable def orcW (W : World) (v : Value) : Option (List Itm) :=
  haveI := Classical.propDecidable (∃ its, Reads W v its)
  if h : ∃ its, Reads W v its then some (Classical.choose h) else none
theorem orcW_yes {W : World} {v : Value} (h : ∃ its, Reads W v its) : ∃ its, orcW W v = some its ∧ Reads W v its := by
  refine ⟨Classical.choose h, ?_, Classical.choose_spec h⟩
  unfold orcW
  exact dif_pos h
theorem orcW_J (W : World) : JW (orcW W) W.heap.size W := by
  intro v its h
  unfold orcW at h
  split at h
  · rename_i q
    cases h
    exact (Classical.choose_spec q).2.1
  · cases h
theorem pick (W : World) : ∀ (ops : List OpS), (∀ o, o ∈ ops → OpOK o ∧ (o.its ≠ [] → RS W W.heap.size shI (itms o.its) (.slice o.ad o.its.length o.cp))) →
    ∃ ops2 : List OpS, ops2.map opD = ops.map opD ∧ ∀ o, o ∈ ops2 → OpOK o ∧ (o.its ≠ [] → orcW W (.slice o.ad o.its.length o.cp) = some o.its)
  | [], _ => ⟨[], rfl, fun o ho => by cases ho⟩
  | o :: ops, h => by
    obtain ⟨ops2, e2, h2⟩ := pick W ops fun o ho => h o (by simp [ho])
    obtain ⟨h3, h4⟩ := h o (by simp)
    obtain ⟨kd, n, cost, its, ad, cp⟩ := o
    simp only at h4
    by_cases hz : its = []
    · refine ⟨⟨kd, n, cost, its, ad, cp⟩ :: ops2, by rw [List.map_cons, List.map_cons, e2], fun o ho => ?_⟩
      rcases List.mem_cons.1 ho with rfl | ho
      · exact ⟨h3, fun q => absurd hz q⟩
      · exact h2 o ho
    · obtain ⟨its', e3, e4, e5, e6⟩ := orcW_yes (W := W) (v := .slice ad its.length cp) ⟨its, hz, h4 hz, h3.its⟩
      have hl : its'.length = its.length := by
        rcases e5.2 with ⟨q, _⟩ | ⟨g, o, cap, cs, T, fr, _, _, hu, _⟩
        · have : its' = [] := by
            cases its' with
            | nil => rfl
            | cons x r => cases q
          exact absurd this e4
        · simp only [Value.slice.injEq] at hu
          rw [itms_length] at hu
          exact hu.2.1.symm
      refine ⟨⟨kd, n, cost, its', ad, cp⟩ :: ops2, ?_, fun o ho => ?_⟩
      · rw [List.map_cons, List.map_cons, e2]
        show opD ⟨kd, n, cost, its', ad, cp⟩ :: _ = opD ⟨kd, n, cost, its, ad, cp⟩ :: _
        unfold opD
        simp only [hl]
      · rcases List.mem_cons.1 ho with rfl | ho
        · exact ⟨⟨h3.cost, e6⟩, fun _ => by simp only [hl]; exact e3⟩
        · exact h2 o ho
end
theorem arr2_open {x : D} (h : x.shape = .arr 2 cU) (hw : x.WF) (hf : x.fits) : ∃ l : Nat → Int, x = arr2U l ∧ ∀ i, 0 ≤ l i := by
  obtain ⟨e, q⟩ := arr_open h hw hf
  refine ⟨fun i => intOf (arrF x i), ?_, fun i => (cell_u (q i).2.1 (q i).2.2).2.1⟩
  exact e.trans (congrArg (D.arr 2 cU) (funext fun i => (cell_u (q i).2.1 (q i).2.2).1))
theorem lpaSyncs_data {orc : Value → Option (List Itm)} (ops : List OpS) (l0 : ops.length ≤ maxLen) (hops : ∀ o, o ∈ ops → OpOK o ∧ (o.its ≠ [] → orc (.slice o.ad o.its.length o.cp) = some o.its)) (x0 : D) (w0 : x0.WF) (s0 : x0.shape = cI) (f0 : x0.fits)
    (x2 : D) (w2 : x2.WF) (s2 : x2.shape = .arr 2 cU) (f2 : x2.fits) : evF Tryz.prog env (xl orc) (30) 3 [.d x0, .sl .ro shO (ops.map opD), .d x2] = some (.d (.s (.bool (true)))) := by
  obtain ⟨e2, i2⟩ := cell_i s0 f0
  rw [e2]
  obtain ⟨ns, rfl, hns⟩ := arr2_open s2 w2 f2
  have get : ∀ k, k < ops.length → ops.getD k op0 ∈ ops := fun k hk => by
    have : ops.getD k op0 = ops[k] := by simp [List.getD, List.getElem?_eq_getElem hk]
    rw [this]; exact List.getElem_mem _
  exact lpaSyncs_ev ops l0 (fun k hk => (hops _ (get k hk)).2) (intOf x0) ns hns
open Go.ChangeShapes Go.WideShapes Go.ChangeAt Go.RowKit
set_option maxRecDepth 100000
theorem own : ownKnob Tryz.prog.godebug = none := by kernel_rfl
theorem laidOut : laidOutB Tryz.prog = true := by kernel_rfl
def zs32 : List Int := [0, 1, 28, 2, 29, 14, 24, 3, 30, 22, 20, 15, 25, 17, 4, 8, 31, 27, 13, 23, 21, 19, 16, 7, 26, 12, 18, 6, 11, 5, 10, 9]
def zs64 : List Int := [0, 1, 56, 2, 57, 49, 28, 3, 61, 58, 42, 50, 38, 29, 17, 4, 62, 47, 59, 36, 45, 43, 51, 22, 53, 39, 33, 30, 24, 18, 12, 5, 63, 55, 48, 27, 60, 41, 37, 16, 46, 35, 44, 21, 52, 32, 23, 11, 54, 26, 40, 15, 34, 20, 31, 10, 25, 14, 19, 9, 13, 8, 7, 6]
theorem laid_eq : Rows.lpaSyncsRow.laid = [("math/bits.deBruijn32tab", Lib.tabData .u8 zs32), ("math/bits.deBruijn64tab", Lib.tabData .u8 zs64), ("internal/strconv.uint64pow10", Lib.tabData .u64 Lib.pow10Tab)] := by kernel_rfl
theorem laid_tail {P : Program} {x : String × DataW Unit} {r : List (String × DataW Unit)} {w : World} (h : laidMet P (x :: r) w) : laidMet P r w := by
  obtain ⟨ps, ⟨g, t, cs, fuel, p, q, _, _, _, _, hr, rfl⟩, hn, hc⟩ := h
  exact ⟨q, hr, (List.nodup_append.1 hn).2.1, fun b off hm => hc b off (List.mem_append_right _ hm)⟩
theorem JP_of {W : World} (h : laidMetH Tryz.prog Rows.lpaSyncsRow.laid W) : JP W := by
  have h' : laidMet Tryz.prog [("math/bits.deBruijn32tab", Lib.tabData .u8 zs32), ("math/bits.deBruijn64tab", Lib.tabData .u8 zs64), ("internal/strconv.uint64pow10", Lib.tabData .u64 Lib.pow10Tab)] W := by
    have h2 := h
    rw [laid_eq] at h2
    exact h2
  exact Lib.tabIs_of_head (rest := []) gPow (by kernel_rfl) Tryz.underlying152 Tryz.underlying110 (by kernel_rfl) (by kernel_rfl) (laid_tail (laid_tail h'))
theorem contract (H : Type) (enc : TypeId × Value → H) (W : World) (base : Nat) (args : Array Value) (ds gs : List (DataW H)) (before : List MemPlace)
    (hval0 : ∀ (j : Nat) t v, Tryz.f3.params[j]? = some t → args[j]? = some v → Value.okWide Tryz.prog W .any base t v)
    (hW : DataW.Whole enc Tryz.prog Tryz.f3.params.toList Rows.lpaSyncsSpec.vars false W args.toList ds gs before) (hL : laidMetH Tryz.prog Rows.lpaSyncsRow.laid W) :
    Calls Tryz.prog 3 args W fun e W' => ∃ v, e = .returned v ∧ Rows.lpaSyncsSpec.post enc Tryz.prog Tryz.f3 false true false false W args v W' := by
  have hval : ∀ (j : Nat) t v, Tryz.f3.params[j]? = some t → args[j]? = some v → Value.okWide Tryz.prog W .any base t v := hval0
  have hW' := hW
  obtain ⟨p, q, hA0, hV, rfl, hfz, hnd⟩ := hW
  have hA : DataW.TrodAll enc Tryz.prog W 0 (fun _ => true) true Tryz.f3.params.toList args.toList ds p := hA0
  rw [Tryz.params3] at hA hval
  obtain ⟨v0, vs0, d0, ds0, p0, q0, hargs, rfl, rfl, h0, r0⟩ := trodAll_cons hA
  obtain ⟨v1, vs1, d1, ds1, p1, q1, rfl, rfl, rfl, h1, r1⟩ := trodAll_cons r0
  obtain ⟨v2, vs2, d2, ds2, p2, q2, rfl, rfl, rfl, h2, r2⟩ := trodAll_cons r1
  obtain ⟨rfl, rfl, rfl⟩ := trodAll_nil r2
  obtain rfl : args = #[v0, v1, v2] := by cases args; simp_all
  obtain ⟨rfl, rfl⟩ := trodVars_none hV
  have k0 := h0
  have lt0 : ∀ x ∈ p0, x.block < W.heap.size := by obtain ⟨m, hm⟩ := k0; exact DataW.trod_lt m _ _ _ hm
  have k1 := h1
  have lt1 : ∀ x ∈ p1, x.block < W.heap.size := by obtain ⟨m, hm⟩ := k1; exact DataW.trod_lt m _ _ _ hm
  have k2 := h2
  have lt2 : ∀ x ∈ p2, x.block < W.heap.size := by obtain ⟨m, hm⟩ := k2; exact DataW.trod_lt m _ _ _ hm
  obtain ⟨x0, rfl, w0, s0, f0⟩ := open_data (d := 8) (sh := cI) (by kernel_rfl) (hval 0 3 v0 rfl rfl) h0
  obtain ⟨ops1, rs1, l1, hops1⟩ := open_ops (hval 1 22 v1 rfl rfl) h1
  obtain ⟨x2, rfl, w2, s2, f2⟩ := open_data (d := 8) (sh := .arr 2 cU) (by kernel_rfl) (hval 2 24 v2 rfl rfl) h2
  obtain ⟨ops, eops, hops⟩ := pick W ops1 hops1
  rw [← eops] at rs1
  have l1 : ops.length ≤ maxLen := by
    have : (ops.map opD).length = (ops1.map opD).length := by rw [eops]
    rw [List.length_map, List.length_map] at this
    omega
  clear hA0 hval0
  have hJ := JP_of hL
  have hsz := JP_size hJ
  refine ((evF_soundJ env_ok fns_ok (J := JL (orcW W) W.heap.size) (B0 := W.heap.size) (JL_keep hsz) (ext := xl (orcW W)) xl_ok 30 3 _ _ (lpaSyncs_data ops l1 hops x0 w0 s0 f0 x2 w2 s2 f2) W ⟨orcW_J W, hJ⟩ (Nat.le_refl _)).run [x0.val, v1, x2.val] ⟨⟨w0, rfl⟩, rs1, ⟨w2, rfl⟩, trivial⟩).mono fun e W' ⟨u, he, bel0, hr⟩ => ?_
  have bel := bel0.toK
  obtain rfl : u = .bool true := hr.2
  subst he
  exact ⟨_, rfl, _, _, _, [], _, [], hW', trodAll_mk1 (shut_bool Tryz.underlying4 _), trodAll_cons_mk (Go.RowKit.Below.trod laidOut (by kernel_rfl) (of_decide_eq_true (by kernel_rfl)) k0 bel lt0) (trodAll_cons_mk (Go.RowKit.Below.trod laidOut (by kernel_rfl) (of_decide_eq_true (by kernel_rfl)) k1 bel lt1) (trodAll_cons_mk (Go.RowKit.Below.trod laidOut (by kernel_rfl) (of_decide_eq_true (by kernel_rfl)) k2 bel lt2) trodAll_mk0)), rfl, bel.frame _, fun h => by cases h⟩
def layAs (k : IntKind) (zs : List Int) : Obj → Obj
  | .cells _ t frozen => .cells (zs.map fun z => Value.int k z).toArray t frozen
  | o => o
/-- A world for the witness: the settled one, the tables as their initialisers lay them. -/
noncomputable def laidWorld (os : Os) : World :=
  { World.holding Tryz.prog os ⟨#[], #[], []⟩ with heap := (((World.holding Tryz.prog os ⟨#[], #[], []⟩).heap.modify 0 (layAs .u64 Lib.pow10Tab)).modify 1 (layAs .u8 zs32)).modify 2 (layAs .u8 zs64) }
abbrev wArgs : Array Value := #[.int .i64 0, .slice none 0 0, .agg #[.int .u32 0, .int .u32 0]]
theorem laid_met (os : Os) : laidMet Tryz.prog Rows.lpaSyncsRow.laid ((laidWorld os).forCall (fun _ _ => 0) ⟨#[], wArgs, []⟩).memory :=
  laidMet_of_run' 8 (by kernel_rfl) (by kernel_rfl)
theorem reads (os : Os) {H : Type} (enc : TypeId × Value → H) : ∃ places, DataW.whole enc Tryz.prog ((laidWorld os).forCall (fun _ _ => 0) ⟨#[], wArgs, []⟩).memory Tryz.f3.params.toList Rows.lpaSyncsSpec.vars false wArgs.toList 8 = some ([.lit (.int .i64 0), .nil, .agg [.lit (.int .u32 0), .lit (.int .u32 0)]], [], places) :=
  ⟨[], by kernel_rfl⟩
theorem lifted (os : Os) (started : os.Started) (H : Type) (enc : TypeId × Value → H) (F : Stop.Interp) :
    ReturnsInHanded {} Tryz.checked os 3 .any ((OpenSpec.ofChange Rows.lpaSyncsSpec).preRow enc Tryz.prog Tryz.f3 Rows.lpaSyncsRow.domain false Rows.lpaSyncsRow.laid) (((OpenSpec.ofChange Rows.lpaSyncsSpec).at F).post enc Tryz.prog Tryz.f3 false true false false) := by
  obtain ⟨places, hx⟩ := reads os enc
  refine returnsInHanded_of_row (C := Tryz.checked) (s := OpenSpec.ofChange Rows.lpaSyncsSpec) own started (by kernel_rfl) Tryz.func3
    (witness_row_at (enc := enc) (C := Tryz.checked) false (laidWorld os) wArgs rfl (by kernel_rfl) (by kernel_rfl) (by kernel_rfl)
      (OpenSpec.preRow_of_cond 8 hx (by kernel_rfl) (fun k hk => by cases hk) (by kernel_rfl) (laid_met os))) ?_
  intro W base args ds gs before hval hW _ _ _ hL _ _
  exact contract H enc W base args ds gs before hval hW hL
theorem said : Rows.LpaSyncsSaid :=
  OpenClaim.holds_of_cond 3 Tryz.f3 rfl rfl rfl rfl rfl rfl rfl ⟨rfl, rfl, rfl, rfl, rfl⟩ rfl rfl rfl rfl rfl (by kernel_rfl) Tryz.func3 (by kernel_rfl)
    (of_decide_eq_true (by kernel_rfl)) (by unfold Func.isWrapper; first | (rw [if_pos (by decide +kernel)]; kernel_rfl) | (rw [if_neg (by decide +kernel)]; exact ⟨rfl, rfl⟩))
    (fun os started H enc _ F => by rw [OpenClaim.pre_eq_preRow]; exact lifted os started H enc F)
theorem plain (f : FuncId) (fn : Func) (hf : Tryz.pinned.checked.prog.funcNamed "fingerpost/fingerpostlaw31.LpaSyncs" = some f) (hfn : Tryz.pinned.checked.prog.funcs[f]? = some fn) :
    false = Tryz.pinned.checked.prog.looks [] ∧ ∀ (j : Nat) t, fn.params[j]? = some t → Tryz.pinned.checked.prog.wantsStandIn t = false := by
  obtain rfl : f = 3 := Option.some.inj ((show Tryz.prog.funcNamed "fingerpost/fingerpostlaw31.LpaSyncs" = some 3 by kernel_rfl).symm.trans hf) |>.symm
  obtain rfl : fn = Tryz.f3 := (Option.some.inj (Tryz.func3.symm.trans hfn)).symm
  refine ⟨by kernel_rfl, fun j t ht => ?_⟩
  rw [Tryz.params3] at ht
  have hm : t ∈ [3, 22, 24] := by simpa using Array.mem_of_getElem? ht
  have hall : ([3, 22, 24].all fun u => !Tryz.prog.wantsStandIn u) = true := by kernel_rfl
  exact (show Tryz.prog.wantsStandIn t = false by simpa using List.all_eq_true.1 hall t hm)
theorem lpaSyncs_proved : Rows.LpaSyncsCardSaid :=
  Claim7.holds_tied_plain_at .later [] _ _ _ _ said (fun _ h => by cases h) (by kernel_rfl) (fun _ h => by cases h) lpaSyncs_row_tie rfl ⟨rfl, rfl⟩ (by kernel_rfl) rfl plain (by kernel_rfl)
#print axioms lpaSyncs_proved
end Go.Proofs.YtjceimcepogkaaaGreatDoor.Ev
