/- What came in, opened: trees, rows, what is known. -/
import Derived.Test.YtfbaikkadndckaaSe
import Derived.Test.YtfbaikkadndckaaEvF
namespace Go.Proofs.Ytfbaikkadndckaa.Ev
open Go
attribute [local congr] ob_congr sq_congr cd_congr ite_congr1 iter_congr it1_congr jumps_congr
set_option maxRecDepth 100000
set_option linter.unusedSimpArgs false
set_option linter.unusedVariables false

theorem cons2 {a a' b b' : D} (h : a = a') (g : b = b') : D.cons a b = .cons a' b' := by rw [h, g]
def inU (x : Int) : Prop := 0 ≤ x ∧ x ≤ 4294967295
theorem inU_of {x : Int} (h : (Lit.int .u32 x).wf = true) : inU x := by
  simp [Lit.wf, IntKind.min, IntKind.max, IntKind.signed, IntKind.bits] at h
  exact ⟨by omega, by omega⟩
theorem cell_u {x : D} (h : x.shape = cU) (hf : x.fits) : x = dU (intOf x) ∧ inU (intOf x) := by
  have e := of_cell h
  refine ⟨e, ?_⟩
  rw [e] at hf
  exact inU_of hf
theorem cell_i {x : D} (h : x.shape = cI) (hf : x.fits) : x = dI (intOf x) ∧ inI (intOf x) := by
  have e := of_cell h
  refine ⟨e, ?_⟩
  rw [e] at hf
  exact inI_of hf
theorem arr_open {x : D} {n : Nat} {sh : Sh} (h : x.shape = .arr n sh) (hw : x.WF) (hf : x.fits) : x = .arr n sh (arrF x) ∧ ∀ i, (arrF x i).WF ∧ (arrF x i).shape = sh ∧ (arrF x i).fits := by
  obtain ⟨f, rfl, hq⟩ := of_arr h hw
  exact ⟨rfl, fun i => ⟨(hq i).1, (hq i).2, hf i⟩⟩
theorem cons_open {x : D} {a b : Sh} (h : x.shape = .cons a b) (hw : x.WF) (hf : x.fits) : x = .cons (hdD x) (tlD x) ∧ ((hdD x).WF ∧ (hdD x).shape = a ∧ (hdD x).fits) ∧ ((tlD x).WF ∧ (tlD x).shape = b ∧ (tlD x).fits) := by
  obtain ⟨y, z, rfl, h1, h2⟩ := of_cons h
  exact ⟨rfl, ⟨hw.1, h1, hf.1⟩, hw.2, h2, hf.2⟩
theorem arrU_open {x : D} (h : x.shape = .arr 16 cU) (hw : x.WF) (hf : x.fits) : ∃ l : Nat → Int, x = arrU l ∧ ∀ i, inU (l i) := by
  obtain ⟨e, q⟩ := arr_open h hw hf
  refine ⟨fun i => intOf (arrF x i), ?_, fun i => (cell_u (q i).2.1 (q i).2.2).2⟩
  exact e.trans (congrArg (D.arr 16 cU) (funext fun i => (cell_u (q i).2.1 (q i).2.2).1))
theorem arrI_open {x : D} {m : Nat} (h : x.shape = .arr m cI) (hw : x.WF) (hf : x.fits) : ∃ l : Nat → Int, x = .arr m cI (fun i => dI (l i)) ∧ ∀ i, inI (l i) := by
  obtain ⟨e, q⟩ := arr_open h hw hf
  refine ⟨fun i => intOf (arrF x i), ?_, fun i => (cell_i (q i).2.1 (q i).2.2).2⟩
  exact e.trans (congrArg (D.arr m cI) (funext fun i => (cell_i (q i).2.1 (q i).2.2).1))
theorem ent_open {x : D} (h : x.shape = shE) (hw : x.WF) (hf : x.fits) : x = entD (entU x) (entI x) ∧ inU (entU x) ∧ inI (entI x) := by
  obtain ⟨e, ⟨w1, s1, f1⟩, w2, s2, f2⟩ := cons_open h hw hf
  obtain ⟨e2, ⟨w3, s3, f3⟩, w4, s4, f4⟩ := cons_open s2 w2 f2
  obtain ⟨q1, r1⟩ := cell_u s1 f1
  obtain ⟨q2, r2⟩ := cell_i s3 f3
  refine ⟨?_, r1, r2⟩
  rw [e, e2, q1, q2, of_nil s4]; rfl
theorem tree_open {x : D} (h : x.shape = shT) (hw : x.WF) (hf : x.fits) : x = treeD (fun i => entU (arrF x i)) (fun i => entI (arrF x i)) ∧ ∀ i, inU (entU (arrF x i)) ∧ inI (entI (arrF x i)) := by
  obtain ⟨e, q⟩ := arr_open h hw hf
  refine ⟨?_, fun i => (ent_open (q i).2.1 (q i).1 (q i).2.2).2⟩
  exact e.trans (congrArg (D.arr 16 shE) (funext fun i => (ent_open (q i).2.1 (q i).1 (q i).2.2).1))
theorem rows_open {x : D} (h : x.shape = shRs) (hw : x.WF) (hf : x.fits) : ∃ r : Rw, x = rowsD r.d r.p r.n ∧ ∀ i, inU (r.d i) ∧ inI (r.p i) ∧ inI (r.n i) := by
  obtain ⟨e, q⟩ := arr_open h hw hf
  have key : ∀ i, arrF x i = rowD (intOf (hdD (arrF x i))) (intOf (hdD (tlD (arrF x i)))) (intOf (hdD (tlD (tlD (arrF x i))))) ∧ inU (intOf (hdD (arrF x i))) ∧ inI (intOf (hdD (tlD (arrF x i)))) ∧ inI (intOf (hdD (tlD (tlD (arrF x i))))) := fun i => by
    obtain ⟨e1, ⟨w1, s1, f1⟩, w2, s2, f2⟩ := cons_open (q i).2.1 (q i).1 (q i).2.2
    obtain ⟨e2, ⟨w3, s3, f3⟩, w4, s4, f4⟩ := cons_open s2 w2 f2
    obtain ⟨e3, ⟨w5, s5, f5⟩, w6, s6, f6⟩ := cons_open s4 w4 f4
    obtain ⟨q1, r1⟩ := cell_u s1 f1
    obtain ⟨q2, r2⟩ := cell_i s3 f3
    obtain ⟨q3, r3⟩ := cell_i s5 f5
    refine ⟨?_, r1, r2, r3⟩
    rw [e1, e2, e3, q1, q2, q3, of_nil s6]; rfl
  refine ⟨⟨fun i => intOf (hdD (arrF x i)), fun i => intOf (hdD (tlD (arrF x i))), fun i => intOf (hdD (tlD (tlD (arrF x i))))⟩, ?_, fun i => (key i).2⟩
  exact e.trans (congrArg (D.arr 16 shR) (funext fun i => (key i).1))
/-- Numbers that fit. -/
structure KnOK (k : Kn) : Prop where
  self : inI k.self
  up : inI k.up
  c : ∀ i, inU (k.c i)
  tD : ∀ n i, inU (k.tD n i)
  tP : ∀ n i, inI (k.tP n i)
theorem kn_open {x : D} (h : x.shape = shK) (hw : x.WF) (hf : x.fits) : ∃ k : Kn, x = knD k.self k.up k.c k.tD k.tP ∧ KnOK k := by
  obtain ⟨e1, ⟨w1, s1, f1⟩, w2, s2, f2⟩ := cons_open h hw hf
  obtain ⟨e2, ⟨w3, s3, f3⟩, w4, s4, f4⟩ := cons_open s2 w2 f2
  obtain ⟨e3, ⟨w5, s5, f5⟩, w6, s6, f6⟩ := cons_open s4 w4 f4
  obtain ⟨q1, r1⟩ := cell_i s1 f1
  obtain ⟨e4, ⟨w7, s7, f7⟩, w8, s8, f8⟩ := cons_open s3 w3 f3
  obtain ⟨q2, r2⟩ := cell_i s7 f7
  obtain ⟨e5, ⟨w9, s9, f9⟩, w10, s10, f10⟩ := cons_open s8 w8 f8
  obtain ⟨c, ec, hc⟩ := arrU_open s9 w9 f9
  obtain ⟨et, ht⟩ := arr_open s5 w5 f5
  have tr := fun n => tree_open (ht n).2.1 (ht n).1 (ht n).2.2
  refine ⟨⟨intOf (hdD x), intOf (hdD (hdD (tlD x))), c, fun n i => entU (arrF (arrF (hdD (tlD (tlD x))) n) i), fun n i => entI (arrF (arrF (hdD (tlD (tlD x))) n) i)⟩, ?_, r1, r2, hc, fun n i => ((tr n).2 i).1, fun n i => ((tr n).2 i).2⟩
  have et2 : hdD (tlD (tlD x)) = .arr 16 shT fun n => treeD (fun i => entU (arrF (arrF (hdD (tlD (tlD x))) n) i)) (fun i => entI (arrF (arrF (hdD (tlD (tlD x))) n) i)) :=
    et.trans (congrArg (D.arr 16 shT) (funext fun n => (tr n).1))
  have n1 := of_nil s6
  have n2 := of_nil s10
  exact e1.trans (cons2 q1 (e2.trans (cons2 (e4.trans (cons2 q2 (e5.trans (cons2 ec n2)))) (e3.trans (cons2 et2 n1)))))
end Go.Proofs.Ytfbaikkadndckaa.Ev
