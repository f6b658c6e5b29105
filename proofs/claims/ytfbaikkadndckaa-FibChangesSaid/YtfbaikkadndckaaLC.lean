/- FibChanges: what changes any fib into another, whom they join, and shares; the changes make the one the other's, and all shares together are all ways: the statement. -/
import Derived.Test.YtfbaikkadndckaaFC
import Derived.Test.YtfbaikkadndckaaEvF
import Derived.Test.YtfbaikkadndckaaFacts
import Derived.Test.YtfbaikkadndckaaRows
import Derived.ProofKit
import Derived.OpenShut
namespace Go.Proofs.Ytfbaikkadndckaa.Ev
open Go
attribute [local congr] ob_congr sq_congr cd_congr ite_congr1 iter_congr it1_congr jumps_congr
set_option maxRecDepth 100000
set_option linter.unusedSimpArgs false
set_option linter.unusedVariables false
def hdD : D → D
  | .cons a _ => a
  | x => x
def tlD : D → D
  | .cons _ b => b
  | x => x
def arrF : D → Nat → D
  | .arr _ _ f => f
  | x => fun _ => x
theorem cons2 {a a' b b' : D} (h : a = a') (g : b = b') : D.cons a b = .cons a' b' := by rw [h, g]
def inU (x : Int) : Prop := 0 ≤ x ∧ x ≤ 4294967295
theorem inU_of {x : Int} (h : (Lit.int .u32 x).wf = true) : inU x := by
  simp [Lit.wf, IntKind.min, IntKind.max, IntKind.signed, IntKind.bits] at h
  exact ⟨by omega, by omega⟩
theorem cell_u {x : D} (h : x.shape = cU) (hf : x.fits) : x = dU (intOf x) ∧ inU (intOf x) := by
  have e := of_cell h
  refine ⟨e, ?_⟩
  rw [e] at hf
  exact inU_of hf
theorem cell_i {x : D} (h : x.shape = cI) (hf : x.fits) : x = dI (intOf x) ∧ inI (intOf x) := by
  have e := of_cell h
  refine ⟨e, ?_⟩
  rw [e] at hf
  exact inI_of hf
theorem arr_open {x : D} {n : Nat} {sh : Sh} (h : x.shape = .arr n sh) (hw : x.WF) (hf : x.fits) : x = .arr n sh (arrF x) ∧ ∀ i, (arrF x i).WF ∧ (arrF x i).shape = sh ∧ (arrF x i).fits := by
  obtain ⟨f, rfl, hq⟩ := of_arr h hw
  exact ⟨rfl, fun i => ⟨(hq i).1, (hq i).2, hf i⟩⟩
theorem cons_open {x : D} {a b : Sh} (h : x.shape = .cons a b) (hw : x.WF) (hf : x.fits) : x = .cons (hdD x) (tlD x) ∧ ((hdD x).WF ∧ (hdD x).shape = a ∧ (hdD x).fits) ∧ ((tlD x).WF ∧ (tlD x).shape = b ∧ (tlD x).fits) := by
  obtain ⟨y, z, rfl, h1, h2⟩ := of_cons h
  exact ⟨rfl, ⟨hw.1, h1, hf.1⟩, hw.2, h2, hf.2⟩
theorem arrI_open {x : D} {m : Nat} (h : x.shape = .arr m cI) (hw : x.WF) (hf : x.fits) : ∃ l : Nat → Int, x = .arr m cI (fun i => dI (l i)) ∧ ∀ i, inI (l i) := by
  obtain ⟨e, q⟩ := arr_open h hw hf
  refine ⟨fun i => intOf (arrF x i), ?_, fun i => (cell_i (q i).2.1 (q i).2.2).2⟩
  exact e.trans (congrArg (D.arr m cI) (funext fun i => (cell_i (q i).2.1 (q i).2.2).1))

abbrev shC : Sh := .cons (.arr 16 cI) (.cons shF .nil)
theorem ep_open {x : D} (h : x.shape = shEp) (hw : x.WF) (hf : x.fits) : x = epD (intOf (hdD x)) (intOf (hdD (tlD x))) := by
  obtain ⟨e1, ⟨w1, s1, f1⟩, w2, s2, f2⟩ := cons_open h hw hf
  obtain ⟨e2, ⟨w3, s3, f3⟩, w4, s4, f4⟩ := cons_open s2 w2 f2
  have q1 := (cell_u s1 f1).1
  have q2 := (cell_u s3 f3).1
  rw [e1, e2, of_nil s4]
  exact cons2 q1 (cons2 q2 rfl)
theorem prs_open {x : D} (h : x.shape = .arr 16 shPr) (hw : x.WF) (hf : x.fits) : ∃ q : Prs, x = prsD q := by
  obtain ⟨e, k⟩ := arr_open h hw hf
  refine ⟨⟨fun i => intOf (hdD (hdD (arrF x i))), fun i => intOf (hdD (tlD (hdD (arrF x i)))), fun i => intOf (hdD (hdD (tlD (arrF x i)))), fun i => intOf (hdD (tlD (hdD (tlD (arrF x i)))))⟩, ?_⟩
  refine e.trans (congrArg (D.arr 16 shPr) (funext fun i => ?_))
  obtain ⟨e1, ⟨w1, s1, f1⟩, w2, s2, f2⟩ := cons_open (k i).2.1 (k i).1 (k i).2.2
  obtain ⟨e2, ⟨w3, s3, f3⟩, w4, s4, f4⟩ := cons_open s2 w2 f2
  have q1 := ep_open s1 w1 f1
  have q2 := ep_open s3 w3 f3
  refine e1.trans (cons2 q1 (e2.trans (cons2 q2 (of_nil s4))))
theorem fib_open {x : D} (h : x.shape = shF) (hw : x.WF) (hf : x.fits) : ∃ s n q, x = fibD s n q := by
  obtain ⟨e1, ⟨w1, s1, f1⟩, w2, s2, f2⟩ := cons_open h hw hf
  obtain ⟨e2, ⟨w3, s3, f3⟩, w4, s4, f4⟩ := cons_open s2 w2 f2
  obtain ⟨e3, ⟨w5, s5, f5⟩, w6, s6, f6⟩ := cons_open s4 w4 f4
  have q1 := (cell_i s1 f1).1
  obtain ⟨n, q2, _⟩ := arrI_open s3 w3 f3
  obtain ⟨q, q3⟩ := prs_open s5 w5 f5
  exact ⟨_, n, q, e1.trans (cons2 q1 (e2.trans (cons2 q2 (e3.trans (cons2 q3 (of_nil s6))))))⟩
theorem case_open {x : D} (h : x.shape = shC) (hw : x.WF) (hf : x.fits) : ∃ st s n q, x = caseD st (fibD s n q) := by
  obtain ⟨e1, ⟨w1, s1, f1⟩, w2, s2, f2⟩ := cons_open h hw hf
  obtain ⟨e2, ⟨w3, s3, f3⟩, w4, s4, f4⟩ := cons_open s2 w2 f2
  obtain ⟨st, q1, _⟩ := arrI_open s1 w1 f1
  obtain ⟨s, n, q, q2⟩ := fib_open s3 w3 f3
  exact ⟨st, s, n, q, e1.trans (cons2 q1 (e2.trans (cons2 q2 (of_nil s4))))⟩
theorem pairs_open {es : List D} (hg : Good cP es) : ∃ l, es = pairs l := by
  induction es with
  | nil => exact ⟨[], rfl⟩
  | cons x es ih =>
    obtain ⟨l, rfl⟩ := ih fun y hy => hg y (by simp [hy])
    obtain ⟨h1, h2⟩ := hg x (by simp)
    obtain ⟨f, rfl, hf⟩ := of_arr h2 h1
    exact ⟨(fun i => intOf (f i)) :: l, congrArg (· :: pairs l) (congrArg (D.arr 2 _) (funext fun i => of_cell (hf i).2))⟩
theorem fibChanges_data (x0 : D) (w0 : x0.WF) (s0 : x0.shape = shC) (f0 : x0.fits) (x1 : D) (w1 : x1.WF) (s1 : x1.shape = shC) (f1 : x1.fits) (es : List D) (hg : Good cP es) (f2 : ∀ x ∈ es, x.fits) (l2 : es.length ≤ maxLen) :
    evF Try.prog env noext (30) 12 [.d x0, .d x1, .sl .ro cP es] = some (.d (.s (.bool (true)))) := by
  obtain ⟨st, s, f, q, rfl⟩ := case_open s0 w0 f0
  obtain ⟨st', t, g, r, rfl⟩ := case_open s1 w1 f1
  obtain ⟨l, rfl⟩ := pairs_open hg
  by_cases hl : l.length ≤ 100
  · exact fibChanges_run st st' s t f g q r l hl
  · exact fibChanges_long _ _ l (by omega)
open Go.ChangeShapes Go.WideShapes Go.ChangeAt Go.RowKit
set_option maxRecDepth 100000
theorem own : ownKnob Try.prog.godebug = none := by kernel_rfl
theorem laidOut : laidOutB Try.prog = true := by kernel_rfl
theorem lifted (os : Os) (started : os.Started) (H : Type) (enc : TypeId × Value → H) :
    ReturnsInHanded {} Try.checked os 12 .any (Rows.fibChangesSpec.pre6 enc Try.prog Try.f12 Rows.fibChangesRow.domain false) (Rows.fibChangesSpec.post enc Try.prog Try.f12 false true false false) := by
  refine returnsInHanded_of_change (C := Try.checked) own started (by kernel_rfl) Try.func12
    (ChangeSpec.witness6 (enc := enc) (C := Try.checked) false ⟨#[], #[Z96.val, Z96.val, .slice none 0 0], []⟩ 8 (by kernel_rfl) (by kernel_rfl) (by kernel_rfl) (by kernel_rfl)) ?_
  intro W base args ds gs before hval0 hW hcnd _
  have hval : ∀ (j : Nat) t v, Try.f12.params[j]? = some t → args[j]? = some v → Value.okWide Try.prog W .any base t v := hval0
  have hW' := hW
  obtain ⟨p, q, hA0, hV, rfl, hfz, hnd⟩ := hW
  have hA : DataW.TrodAll enc Try.prog W 0 (fun _ => true) true Try.f12.params.toList args.toList ds p := hA0
  rw [Try.params12] at hA hval
  obtain ⟨v0, vs0, d0, ds0, p0, q0, hargs, rfl, rfl, h0, r0⟩ := trodAll_cons hA
  obtain ⟨v1, vs1, d1, ds1, p1, q1, rfl, rfl, rfl, h1, r1⟩ := trodAll_cons r0
  obtain ⟨v2, vs2, d2, ds2, p2, q2, rfl, rfl, rfl, h2, r2⟩ := trodAll_cons r1
  obtain ⟨rfl, rfl, rfl⟩ := trodAll_nil r2
  obtain rfl : args = #[v0, v1, v2] := by cases args; simp_all
  obtain ⟨rfl, rfl⟩ := trodVars_none hV
  have k0 := h0
  have lt0 : ∀ x ∈ p0, x.block < W.heap.size := by obtain ⟨m, hm⟩ := k0; exact DataW.trod_lt m _ _ _ hm
  have k1 := h1
  have lt1 : ∀ x ∈ p1, x.block < W.heap.size := by obtain ⟨m, hm⟩ := k1; exact DataW.trod_lt m _ _ _ hm
  have k2 := h2
  have lt2 : ∀ x ∈ p2, x.block < W.heap.size := by obtain ⟨m, hm⟩ := k2; exact DataW.trod_lt m _ _ _ hm
  obtain ⟨x0, rfl, w0, s0, f0⟩ := open_data (d := 8) (sh := shC) (by kernel_rfl) (hval 0 96 v0 rfl rfl) h0
  obtain ⟨x1, rfl, w1, s1, f1⟩ := open_data (d := 8) (sh := shC) (by kernel_rfl) (hval 1 96 v1 rfl rfl) h1
  obtain ⟨es2, rs2, f2, l2⟩ := open_slice (d := 8) (sh := cP) (t := 122) (e := 126) (by kernel_rfl) (by kernel_rfl) (by kernel_rfl) (by decide) (hval 2 122 v2 rfl rfl) h2
  clear hA0 hval0
  refine ((evF_sound env_ok fns_ok (ext := noext) (fun _ _ _ h => by cases h) 30 12 _ _ (fibChanges_data x0 w0 s0 f0 x1 w1 s1 f1 es2 rs2.1 f2 l2)).run W [x0.val, x1.val, v2] ⟨⟨w0, rfl⟩, ⟨w1, rfl⟩, rs2, trivial⟩).mono fun e W' ⟨u, he, bel, hr⟩ => ?_
  obtain rfl : u = .bool true := hr.2
  subst he
  exact ⟨_, rfl, _, _, _, [], _, [], hW', trodAll_mk1 (shut_bool Try.underlying4 _), trodAll_cons_mk (Below.trod laidOut (by kernel_rfl) (of_decide_eq_true (by kernel_rfl)) k0 bel lt0) (trodAll_cons_mk (Below.trod laidOut (by kernel_rfl) (of_decide_eq_true (by kernel_rfl)) k1 bel lt1) (trodAll_cons_mk (Below.trod laidOut (by kernel_rfl) (of_decide_eq_true (by kernel_rfl)) k2 bel lt2) trodAll_mk0)), rfl, bel.frame _, fun h => by cases h⟩
theorem over : Rows.fibChangesRow.holds Try.pinned (OpenSpec.ofChange Rows.fibChangesSpec) :=
  OpenClaim.holds_of_wide 12 Try.f12 rfl rfl rfl rfl rfl rfl rfl ⟨rfl, rfl, rfl, rfl, rfl⟩ rfl rfl rfl rfl rfl (by kernel_rfl) Try.func12 (by kernel_rfl)
    (of_decide_eq_true (by kernel_rfl)) (by unfold Func.isWrapper; first | (rw [if_pos (by decide +kernel)]; kernel_rfl) | (rw [if_neg (by decide +kernel)]; exact ⟨rfl, rfl⟩))
    (fun os started H enc _ => lifted os started H enc)
theorem fibChanges_proved : Rows.FibChangesSaid := over
#print axioms fibChanges_proved
end Go.Proofs.Ytfbaikkadndckaa.Ev
