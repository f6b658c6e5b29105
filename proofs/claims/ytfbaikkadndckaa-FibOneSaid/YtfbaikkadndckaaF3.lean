/- A slice of operations that came in, each with a slice of items. -/
import Derived.Test.YtfbaikkadndckaaF2
import Derived.Test.YtfbaikkadndckaaRows
import Derived.ProofKit
import Derived.OpenShut
namespace Go.Proofs.Ytfbaikkadndckaa.Ev
open Go
attribute [local congr] ob_congr sq_congr cd_congr ite_congr1 iter_congr it1_congr jumps_congr
set_option maxRecDepth 100000
set_option linter.unusedSimpArgs false
set_option linter.unusedVariables false
open Go.ChangeShapes Go.WideShapes Go.ChangeAt
section
variable {H : Type} {enc : TypeId × Value → H} {P : Program} {w : World} {base : Nat} {spare : Nat → Bool} {held : Bool}
/-- A row that came in, element by element. -/
theorem read_row {t e : TypeId} {sh : Sh} {n : Nat} {v : Value} {y : DataW H × List MemPlace} {Q : D → Prop} (ht : P.underlying t = some (.slice e)) (hce : P.cellsOf e = sh.size) (hpos : 0 < sh.size)
    (hmk : ∀ cs, (∃ y n, DataW.trod enc P w base spare held n e cs = some y) → ∃ x : D, x.WF ∧ x.shape = sh ∧ x.flat = cs ∧ Q x)
    (hd : DataW.trod enc P w base spare held n t [v] = some y) (hv : ∀ a cap, v = .slice (some a) 0 cap → a.spot = none ∧ ∃ row cells, w.shape? a.block = some (row, cells)) :
    ∃ es : List D, RS w w.heap.size sh es v ∧ (∀ x, x ∈ es → Q x) ∧ es.length ≤ maxLen := by
  rcases DataW.trod_slice ht hd with ⟨h, _⟩ | ⟨a, len, cap, elems, rest, m, _, h, _, hb, hl, hm, hlen, hel, _⟩
  · simp at h; subst h
    exact ⟨[], ⟨fun x hx => by simp at hx, Or.inl ⟨rfl, rfl⟩⟩, fun x hx => by simp at hx, Nat.zero_le _⟩
  · simp at h; subst h
    have each : ∀ i, i < len → ∃ cs, w.cells? base (a.add (i * sh.size)) sh.size = some cs ∧ ∃ x : D, x.WF ∧ x.shape = sh ∧ x.flat = cs ∧ Q x := by
      intro i hi
      have p := hel i hi
      obtain ⟨z, hz⟩ : ∃ z, elems[i]? = some z := ⟨elems[i], by simp [hlen, hi]⟩
      rw [hz, hce] at p
      simp only [Option.bind_eq_some_iff] at p
      obtain ⟨cs, h1, h2⟩ := p
      exact ⟨cs, h1, hmk cs ⟨_, _, h2⟩⟩
    have hh : a.spot = none ∧ ∃ arr T fr, w.heap[a.block]? = some (.cells arr T fr) := by
      by_cases h0 : 0 < len
      · obtain ⟨cs, h1, _⟩ := each 0 h0
        have q := World.cells?_some h1
        have q3 := q.2.2 0 hpos
        rw [List.getElem?_eq_getElem (by omega)] at q3
        have e0 : (a.add (0 * sh.size)).add 0 = a := by simp [Addr.add]
        rw [e0] at q3
        unfold World.cell? at q3
        split at q3
        · rename_i c T fr he
          split at q3
          · cases q3
          · rename_i hs; exact ⟨by simpa using hs, _, _, _, he⟩
        · cases q3
      · obtain rfl : len = 0 := by omega
        obtain ⟨h1, row, cells, h2⟩ := hv a cap rfl
        refine ⟨h1, ?_⟩
        unfold World.shape? at h2
        split at h2
        · rename_i c T fr he; exact ⟨_, _, _, he⟩
        · cases h2
    obtain ⟨g, o, sp⟩ := a
    obtain ⟨hsp, arr, T, fr, hcs⟩ := hh
    obtain rfl : sp = none := hsp
    simp only [add_plain] at each
    have hcs : w.heap[g]? = some (.cells arr T fr) := hcs
    have hlt : g < w.heap.size := (Array.getElem?_eq_some_iff.1 hcs).1
    obtain ⟨f, hf⟩ : ∃ f : Nat → D, ∀ i, i < len → ∃ cs, w.cells? base ⟨g, o + i * sh.size, none⟩ sh.size = some cs ∧ (f i).WF ∧ (f i).shape = sh ∧ (f i).flat = cs ∧ Q (f i) := by
      refine ⟨fun i => if h : i < len then Classical.choose (Classical.choose_spec (each i h)).2 else .nil, fun i hi => ?_⟩
      simp only [dif_pos hi]
      exact ⟨Classical.choose (each i hi), (Classical.choose_spec (each i hi)).1, Classical.choose_spec (Classical.choose_spec (each i hi)).2⟩
    have hgood : Good sh ((List.range len).map f) := by
      intro x hx
      obtain ⟨i, hi, rfl⟩ := List.mem_map.1 hx
      obtain ⟨cs, _, h2, h3, _⟩ := hf i (by simpa using hi)
      exact ⟨h2, h3⟩
    refine ⟨(List.range len).map f, ⟨hgood, Or.inr ⟨g, o, cap, arr, T, fr, hlt, by simp; omega, by simp, hcs, fun j v hj => ?_⟩⟩, fun x hx => ?_, by simp; omega⟩
    · obtain ⟨i, x, k, h1, h2, rfl, h4⟩ := flats_get hgood j v hj
      rw [List.getElem?_map, Option.map_eq_some_iff] at h1
      obtain ⟨i', h5, rfl⟩ := h1
      have hi : i < len := by have := (List.getElem?_eq_some_iff.1 h5).1; simpa using this
      obtain rfl : i = i' := by rw [List.getElem?_eq_getElem (by simpa using hi)] at h5; simpa using h5
      obtain ⟨cs, q1, _, _, q4, _⟩ := hf i hi
      rw [q4] at h4
      have q3 := (World.cells?_some q1).2.2 k h2
      rw [h4] at q3
      simp only [World.cell?, add_plain, hcs] at q3
      rw [← Nat.add_assoc]
      simpa using q3
    · obtain ⟨i, hi, rfl⟩ := List.mem_map.1 hx
      obtain ⟨cs, _, _, _, _, h5⟩ := hf i (by simpa using hi)
      exact h5
end
theorem itms_of : ∀ {es : List D}, Good shI es → (∀ x, x ∈ es → x.fits) → ∃ its : List Itm, es = itms its ∧ ∀ x, x ∈ its → ItmOK x
  | [], _, _ => ⟨[], rfl, fun x hx => by cases hx⟩
  | e :: es, hg, hf => by
    obtain ⟨its, rfl, h2⟩ := itms_of (es := es) (fun x hx => hg x (by simp [hx])) (fun x hx => hf x (by simp [hx]))
    obtain ⟨w0, s0⟩ := hg e (by simp)
    have f0 := hf e (by simp)
    obtain ⟨e1, ⟨w1, s1, f1⟩, w2, s2, f2⟩ := cons_open s0 w0 f0
    obtain ⟨e2, ⟨w3, s3, f3⟩, w4, s4, f4⟩ := cons_open s2 w2 f2
    obtain ⟨e3, ⟨w5, s5, f5⟩, w6, s6, f6⟩ := cons_open s4 w4 f4
    obtain ⟨e4, ⟨w7, s7, f7⟩, w8, s8, f8⟩ := cons_open s6 w6 f6
    obtain ⟨q1, r1⟩ := cell_i s1 f1
    obtain ⟨q2, r2⟩ := cell_i s3 f3
    obtain ⟨q3, r3⟩ := cell_u s5 f5
    obtain ⟨q4, r4⟩ := cell_i s7 f7
    refine ⟨⟨intOf (hdD e), intOf (hdD (tlD e)), intOf (hdD (tlD (tlD e))), intOf (hdD (tlD (tlD (tlD e))))⟩ :: its, ?_, fun x hx => ?_⟩
    · show e :: itms its = itD _ _ _ _ :: itms its
      congr 1
      rw [e1, e2, e3, e4, of_nil s8]
      show D.cons (hdD e) (.cons (hdD (tlD e)) (.cons (hdD (tlD (tlD e))) (.cons (hdD (tlD (tlD (tlD e)))) .nil))) = .cons (dI _) (.cons (dI _) (.cons (dU _) (.cons (dI _) .nil)))
      exact congr (congrArg D.cons q1) (congr (congrArg D.cons q2) (congr (congrArg D.cons q3) (congr (congrArg D.cons q4) rfl)))
    · rcases List.mem_cons.1 hx with rfl | hx
      · exact ⟨r3, r4⟩
      · exact h2 x hx
/-- What is known of an operation that came in. -/
def OpIn (w : World) (x : D) : Prop := ∃ o : OpS, x = opD o ∧ OpOK o ∧ (o.its ≠ [] → RS w w.heap.size shI (itms o.its) (.slice o.ad o.its.length o.cp))
section
variable {H : Type} {enc : TypeId × Value → H} {w : World} {base : Nat} {spare : Nat → Bool} {held : Bool}
theorem open_op (cs : List Value) (h : ∃ y n, DataW.trod enc Try.prog w base spare held n 104 cs = some y) : ∃ x : D, x.WF ∧ x.shape = shO ∧ x.flat = cs ∧ OpIn w x := by
  obtain ⟨y, n, hy⟩ := h
  obtain ⟨xs, q, rfl, rfl, hl, hx, hi⟩ := DataW.trod_struct Try.underlying104 hy
  have h4 : Try.prog.cellsOf 104 = 4 := by kernel_rfl
  rw [h4] at hl
  obtain ⟨c0, c1, c2, c3, rfl⟩ : ∃ a b c d, cs = [a, b, c, d] := by
    match cs, hl with
    | [a, b, c, d], _ => exact ⟨a, b, c, d, rfl⟩
  have n0 : Try.prog.cellsOf 3 = 1 := by kernel_rfl
  have n2 : Try.prog.cellsOf 22 = 1 := by kernel_rfl
  have n3 : Try.prog.cellsOf 64 = 1 := by kernel_rfl
  have get : ∀ i, i < xs.length → ∃ z, xs[i]? = some z := fun i hi => ⟨xs[i], List.getElem?_eq_getElem hi⟩
  have hx4 : xs.length = 4 := hx
  have p0 := hi 0 _ rfl
  have p1 := hi 1 _ rfl
  have p2 := hi 2 _ rfl
  have p3 := hi 3 _ rfl
  obtain ⟨z0, g0⟩ := get 0 (by omega)
  obtain ⟨z1, g1⟩ := get 1 (by omega)
  obtain ⟨z2, g2⟩ := get 2 (by omega)
  obtain ⟨z3, g3⟩ := get 3 (by omega)
  rw [g0] at p0
  rw [g1] at p1
  rw [g2] at p2
  rw [g3] at p3
  have p0 : DataW.trod enc Try.prog w base spare held q 3 (([c0, c1, c2, c3].drop 0).take (Try.prog.cellsOf 3)) = some z0 := p0
  have p1 : DataW.trod enc Try.prog w base spare held q 3 (([c0, c1, c2, c3].drop 1).take (Try.prog.cellsOf 3)) = some z1 := p1
  have p2 : DataW.trod enc Try.prog w base spare held q 22 (([c0, c1, c2, c3].drop 2).take (Try.prog.cellsOf 22)) = some z2 := p2
  have p3 : DataW.trod enc Try.prog w base spare held q 64 (([c0, c1, c2, c3].drop 3).take (Try.prog.cellsOf 64)) = some z3 := p3
  rw [n0] at p0 p1
  rw [n2] at p2
  rw [n3] at p3
  simp only [List.drop_zero, List.take_succ_cons, List.take_zero, List.drop_succ_cons] at p0 p1 p2 p3
  obtain ⟨a0, e0, _, _⟩ := DataW.trod_int Try.underlying3 p0
  obtain ⟨a1, e1, _, _⟩ := DataW.trod_int Try.underlying3 p1
  obtain ⟨a2, e2, _, hw2⟩ := DataW.trod_int Try.underlying22 p2
  simp only [List.cons.injEq, and_true] at e0 e1 e2
  subst e0 e1 e2
  have hc : inU a2 := by
    exact inU_of hw2
  have fin : ∀ (its : List Itm) (ad : Option Addr) (cp : Nat), c3 = .slice ad its.length cp → (∀ x, x ∈ its → ItmOK x) → (its ≠ [] → RS w w.heap.size shI (itms its) (.slice ad its.length cp)) →
      ∃ x : D, x.WF ∧ x.shape = shO ∧ x.flat = [.int .i64 a0, .int .i64 a1, .int .u32 a2, c3] ∧ OpIn w x := fun its ad cp hv hok hrs => by
    subst hv
    exact ⟨opD ⟨a0, a1, a2, its, ad, cp⟩, ⟨rfl, rfl, rfl, rfl, trivial⟩, rfl, rfl, ⟨a0, a1, a2, its, ad, cp⟩, rfl, ⟨hc, hok⟩, hrs⟩
  rcases DataW.trod_slice Try.underlying64 p3 with ⟨h, _⟩ | ⟨a, len, cap, elems, rest, m, _, h, _⟩
  · simp [n3] at h
    exact fin [] none 0 h (fun x hx => by cases hx) (fun h => absurd rfl h)
  · simp [n3] at h
    by_cases h0 : len = 0
    · subst h0
      exact fin [] (some a) cap h (fun x hx => by cases hx) (fun h => absurd rfl h)
    · subst h
      obtain ⟨es, hrs, hfit, _⟩ := read_row (sh := shI) (Q := fun x => x.fits) Try.underlying64 (by kernel_rfl) (by decide) (fun cs hcs => by
        have hok := opTy_ok 8 68 shI cs (by kernel_rfl) hcs
        exact ⟨mkD shI cs, (mkD_ok _ _).1, (mkD_ok _ _).2, mkD_flat _ _ hok, mkD_fits _ _ hok⟩) p3 (fun a' cap' he => by
        simp at he; exact absurd he.2.1 h0)
      obtain ⟨its, rfl, hok⟩ := itms_of hrs.1 hfit
      have hlen : its.length = len := by
        rcases hrs.2 with ⟨_, hu⟩ | ⟨g, o, cap', cs, T, fr, _, _, hu, _⟩
        · simp at hu
        · simp at hu; rw [itms_length] at hu; exact hu.2.1.symm
      subst hlen
      exact fin its (some a) cap rfl hok (fun _ => hrs)
theorem open_ops {r : Reach} {b0 : Nat} {v : Value} {dd : DataW H} {ps : List MemPlace} (hval : Value.okWide Try.prog w r b0 86 v) (hd : DataW.Trod enc Try.prog w base spare held 86 v dd ps) :
    ∃ ops : List OpS, RS w w.heap.size shO (ops.map opD) v ∧ ops.length ≤ maxLen ∧ ∀ o, o ∈ ops → OpOK o ∧ (o.its ≠ [] → RS w w.heap.size shI (itms o.its) (.slice o.ad o.its.length o.cp)) := by
  obtain ⟨a, len, cap, rfl⟩ := Go.WideShapes.okWide_slice Try.underlying86 hval
  obtain ⟨n, hn⟩ := hd
  obtain ⟨es, hrs, hq, hl⟩ := read_row (sh := shO) (Q := OpIn w) Try.underlying86 (by kernel_rfl) (by decide) open_op hn (fun a' cap' he => by
    simp at he
    obtain ⟨rfl, rfl, rfl⟩ := he
    simp only [Value.okWide, Try.underlying86, Cell.okWide, Cell.ok, World.has] at hval
    obtain ⟨_, _, _, h1, row, cells, h2, _⟩ := hval
    exact ⟨h1, row, cells, h2⟩)
  have key : ∀ es : List D, (∀ x, x ∈ es → OpIn w x) → ∃ ops : List OpS, es = ops.map opD ∧ ∀ o, o ∈ ops → OpOK o ∧ (o.its ≠ [] → RS w w.heap.size shI (itms o.its) (.slice o.ad o.its.length o.cp)) := by
    intro es
    induction es with
    | nil => intro _; exact ⟨[], rfl, fun o ho => by cases ho⟩
    | cons x es ih =>
      intro h
      obtain ⟨ops, rfl, h2⟩ := ih fun y hy => h y (by simp [hy])
      obtain ⟨o, rfl, h3, h4⟩ := h x (by simp)
      exact ⟨o :: ops, rfl, fun o' ho => by
        rcases List.mem_cons.1 ho with rfl | ho
        · exact ⟨h3, h4⟩
        · exact h2 o' ho⟩
  obtain ⟨ops, rfl, h2⟩ := key es hq
  exact ⟨ops, hrs, by simpa using hl, h2⟩
end
end Go.Proofs.Ytfbaikkadndckaa.Ev
