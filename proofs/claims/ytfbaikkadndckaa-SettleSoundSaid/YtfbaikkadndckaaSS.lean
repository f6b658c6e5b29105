/- SettleSound: whatever is told, one's own table is a tree from oneself on whose distances add up: the statement. -/
import Derived.Test.YtfbaikkadndckaaL27
import Derived.Test.YtfbaikkadndckaaSn
import Derived.Test.YtfbaikkadndckaaFacts
import Derived.Test.YtfbaikkadndckaaRows
import Derived.ProofKit
import Derived.OpenShut
namespace Go.Proofs.Ytfbaikkadndckaa.Ev
open Go
set_option linter.unusedSimpArgs false
set_option linter.unusedVariables false
theorem settleSound_data (x0 : D) (w0 : x0.WF) (s0 : x0.shape = shK) (f0 : x0.fits) (x1 : D) (w1 : x1.WF) (s1 : x1.shape = cI) (f1 : x1.fits) :
    evF Try.prog env noext (30) 7 [.d x0, .d x1] = some (.d (.s (.bool (true)))) := by
  obtain ⟨k, rfl, hk⟩ := kn_open s0 w0 f0
  obtain ⟨m, hm, em⟩ := rem16 hk.self
  have hr : right (m : Int) = true := right_of hm
  have hk2 : KnOK ⟨(m : Int), k.up, k.c, k.tD, k.tP⟩ := ⟨by unfold inI; show -9223372036854775808 ≤ (m : Int) ∧ (m : Int) ≤ 9223372036854775807; omega, hk.up, hk.c, hk.tD, hk.tP⟩
  rw [of_cell s1]
  have ht := settle_ok (k := ⟨(m : Int), k.up, k.c, k.tD, k.tP⟩) (skip := withoutN (intOf x1) m) hk2 hr
  have hsnd := tab_sound hk2 hr ht
  refine settleSound_ev k.self k.up k.c k.tD k.tP (intOf x1) m em hr _ rfl ?_ ht.self.2.2 fun j hj hne => ?_
  · rw [cut_id fun i hi => (ht.hi i hi).1, cut_id fun i hi => (ht.hi i hi).2.1]; exact hsnd
  · rcases ht.row j hj hne with h | ⟨n, h⟩
    · exact Or.inl ⟨(none_iff.1 h).1, (none_iff.1 h).2.2⟩
    · right
      have rf := row_fact hk2 hr ht hj h
      have pre := pre_ok h.pre
      obtain ⟨d1, d2⟩ := alD_eq hk2 pre
      have e : IntKind.u32.wrap ((settleF ⟨(m : Int), k.up, k.c, k.tD, k.tP⟩ (withoutN (intOf x1) m)).d j - ofF k.up k.c n) = tol ⟨(m : Int), k.up, k.c, k.tD, k.tP⟩ n j := by
        rw [h.rd, d1]
        have e2 : tol ⟨(m : Int), k.up, k.c, k.tD, k.tP⟩ n j + kc ⟨(m : Int), k.up, k.c, k.tD, k.tP⟩ n - ofF k.up k.c n = tol ⟨(m : Int), k.up, k.c, k.tD, k.tP⟩ n j := by
          show _ + ofF k.up k.c n - ofF k.up k.c n = _; omega
        rw [e2]
        exact u32_id d2 (by have := pre.t2; omega)
      refine ⟨by have := rf.d2; omega, ⟨by rw [h.rn]; exact pre.rn, by rw [h.rn]; exact h.up, h.skip, by rw [h.rn, e]; rfl, ?_⟩⟩
      by_cases ej : (j : Int) = n
      · exact Or.inl ⟨(h.end1 ej).1, by rw [h.rn]; exact ej.symm⟩
      · obtain ⟨p1, p2, p3, p4⟩ := h.end2 ej
        have hne2 : tpr ⟨(m : Int), k.up, k.c, k.tD, k.tP⟩ n j ≠ (m : Int) := by
          simp only [alMid, Bool.and_eq_true, bne_iff_ne, ne_eq, decide_eq_true_eq] at p2
          exact p2.2.2.1
        exact Or.inr ⟨by rw [p1]; exact hne2, rf.pr, by rw [p1, p3, h.rn]⟩
open Go.ChangeShapes Go.WideShapes Go.ChangeAt Go.RowKit
set_option maxRecDepth 100000
theorem own : ownKnob Try.prog.godebug = none := by kernel_rfl
theorem laidOut : laidOutB Try.prog = true := by kernel_rfl
theorem lifted (os : Os) (started : os.Started) (H : Type) (enc : TypeId × Value → H) :
    ReturnsInHanded {} Try.checked os 7 .any (Rows.settleSoundSpec.pre6 enc Try.prog Try.f7 Rows.settleSoundRow.domain false) (Rows.settleSoundSpec.post enc Try.prog Try.f7 false true false false) := by
  refine returnsInHanded_of_change (C := Try.checked) own started (by kernel_rfl) Try.func7
    (ChangeSpec.witness6 (enc := enc) (C := Try.checked) false ⟨#[], #[Z32.val, Z3.val], []⟩ 8 (by kernel_rfl) (by kernel_rfl) (by kernel_rfl) (by kernel_rfl)) ?_
  intro W base args ds gs before hval0 hW hcnd _
  have hval : ∀ (j : Nat) t v, Try.f7.params[j]? = some t → args[j]? = some v → Value.okWide Try.prog W .any base t v := hval0
  have hW' := hW
  obtain ⟨p, q, hA0, hV, rfl, hfz, hnd⟩ := hW
  have hA : DataW.TrodAll enc Try.prog W 0 (fun _ => true) true Try.f7.params.toList args.toList ds p := hA0
  rw [Try.params7] at hA hval
  obtain ⟨v0, vs0, d0, ds0, p0, q0, hargs, rfl, rfl, h0, r0⟩ := trodAll_cons hA
  obtain ⟨v1, vs1, d1, ds1, p1, q1, rfl, rfl, rfl, h1, r1⟩ := trodAll_cons r0
  obtain ⟨rfl, rfl, rfl⟩ := trodAll_nil r1
  obtain rfl : args = #[v0, v1] := by cases args; simp_all
  obtain ⟨rfl, rfl⟩ := trodVars_none hV
  have k0 := h0
  have lt0 : ∀ x ∈ p0, x.block < W.heap.size := by obtain ⟨m, hm⟩ := k0; exact DataW.trod_lt m _ _ _ hm
  have k1 := h1
  have lt1 : ∀ x ∈ p1, x.block < W.heap.size := by obtain ⟨m, hm⟩ := k1; exact DataW.trod_lt m _ _ _ hm
  obtain ⟨x0, rfl, w0, s0, f0⟩ := open_data (d := 8) (sh := shK) (by kernel_rfl) (hval 0 32 v0 rfl rfl) h0
  obtain ⟨x1, rfl, w1, s1, f1⟩ := open_data (d := 8) (sh := cI) (by kernel_rfl) (hval 1 3 v1 rfl rfl) h1
  clear hA0 hval0
  refine ((evF_sound env_ok fns_ok (ext := noext) (fun _ _ _ h => by cases h) 30 7 _ _ (settleSound_data x0 w0 s0 f0 x1 w1 s1 f1)).run W [x0.val, x1.val] ⟨⟨w0, rfl⟩, ⟨w1, rfl⟩, trivial⟩).mono fun e W' ⟨u, he, bel, hr⟩ => ?_
  obtain rfl : u = .bool true := hr.2
  subst he
  exact ⟨_, rfl, _, _, _, [], _, [], hW', trodAll_mk1 (shut_bool Try.underlying4 _), trodAll_cons_mk (Below.trod laidOut (by kernel_rfl) (of_decide_eq_true (by kernel_rfl)) k0 bel lt0) (trodAll_cons_mk (Below.trod laidOut (by kernel_rfl) (of_decide_eq_true (by kernel_rfl)) k1 bel lt1) trodAll_mk0), rfl, bel.frame _, fun h => by cases h⟩
theorem over : Rows.settleSoundRow.holds Try.pinned (OpenSpec.ofChange Rows.settleSoundSpec) :=
  OpenClaim.holds_of_wide 7 Try.f7 rfl rfl rfl rfl rfl rfl rfl ⟨rfl, rfl, rfl, rfl, rfl⟩ rfl rfl rfl rfl rfl (by kernel_rfl) Try.func7 (by kernel_rfl)
    (of_decide_eq_true (by kernel_rfl)) (by unfold Func.isWrapper; first | (rw [if_pos (by decide +kernel)]; kernel_rfl) | (rw [if_neg (by decide +kernel)]; exact ⟨rfl, rfl⟩))
    (fun os started H enc _ => lifted os started H enc)
theorem settleSound_proved : Rows.SettleSoundSaid := over
#print axioms settleSound_proved
end Go.Proofs.Ytfbaikkadndckaa.Ev
