/- SettleWays: the program's ways to any destination, its second one and its set of destinations with one way, are the document's, of anything known; they rise, and no row of one's own table is nearer than the first: the statement. It holds of every input; no condition. -/
import Derived.Test.YtfbaikkadndckaaLW
import Derived.Test.YtfbaikkadndckaaSm
import Derived.Test.YtfbaikkadndckaaFacts
import Derived.Test.YtfbaikkadndckaaRows
import Derived.ProofKit
import Derived.OpenShut
namespace Go.Proofs.Ytfbaikkadndckaa.Ev
open Go
set_option linter.unusedSimpArgs false
set_option linter.unusedVariables false
theorem rem16 {j : Int} (hj : inI j) : ∃ m : Nat, m < 16 ∧ IntKind.i64.wrap ((IntKind.u64.wrap j).tmod 16) = (m : Int) := by
  have e : IntKind.u64.wrap j = j % 18446744073709551616 := rfl
  rw [e]
  have h0 : 0 ≤ j % 18446744073709551616 := by omega
  rw [Int.tmod_eq_emod_of_nonneg h0]
  refine ⟨((j % 18446744073709551616) % 16).toNat, by omega, ?_⟩
  rw [IntWalk.i64_in _ (by omega)]; omega
theorem settleWays_data (x0 : D) (w0 : x0.WF) (s0 : x0.shape = shK) (f0 : x0.fits) (x1 : D) (w1 : x1.WF) (s1 : x1.shape = cI) (f1 : x1.fits) (x2 : D) (w2 : x2.WF) (s2 : x2.shape = cI) (f2 : x2.fits) :
    evF Try.prog env xw (30) 10 [.d x0, .d x1, .d x2] = some (.d (.s (.bool (true)))) := by
  obtain ⟨k, rfl, hk⟩ := kn_open s0 w0 f0
  obtain ⟨m, hm, em⟩ := rem16 hk.self
  have hr : right (m : Int) = true := right_of hm
  have hk2 : KnOK ⟨(m : Int), k.up, k.c, k.tD, k.tP⟩ := ⟨by unfold inI; show -9223372036854775808 ≤ (m : Int) ∧ (m : Int) ≤ 9223372036854775807; omega, hk.up, hk.c, hk.tD, hk.tP⟩
  rw [of_cell s1, of_cell s2]
  have ht := settle_ok (k := ⟨(m : Int), k.up, k.c, k.tD, k.tP⟩) (skip := intOf x2) hk2 hr
  refine settleWays_ev k.self k.up k.c k.tD k.tP (intOf x1) (intOf x2) m em _ rfl fun d hd hne hfar => ?_
  rcases ht.row d hd hne with h | ⟨n, h⟩
  · exact absurd (none_iff.1 h).1 hfar
  · have pre := pre_ok h.pre
    have hj : (right (d : Int) && ((d : Int) != (⟨(m : Int), k.up, k.c, k.tD, k.tP⟩ : Kn).self)) = true := by
      rw [right_of hd, Bool.true_and, bne_iff_ne]; exact hne
    have hc : wayC ⟨(m : Int), k.up, k.c, k.tD, k.tP⟩ d n = true := by
      have hp := h.pre
      unfold alPre at hp
      unfold wayC
      simp only [Bool.and_eq_true] at hp ⊢
      exact ⟨hp.2.2.2.1, hp.2.2.2.2.1, hp.2.2.2.2.2.2⟩
    obtain ⟨x, l, e1, e2⟩ := wList_first hj (mem_listTo.2 ⟨n, h.n16, rfl, h.up⟩) hc
    refine ⟨x, l, e1, ?_⟩
    have e3 : (wayOf ⟨(m : Int), k.up, k.c, k.tD, k.tP⟩ d n).2 = alD ⟨(m : Int), k.up, k.c, k.tD, k.tP⟩ n d := rfl
    rw [h.rd, ← e3]
    omega
open Go.ChangeShapes Go.WideShapes Go.ChangeAt Go.RowKit
set_option maxRecDepth 100000
theorem own : ownKnob Try.prog.godebug = none := by kernel_rfl
theorem laidOut : laidOutB Try.prog = true := by kernel_rfl
theorem lifted (os : Os) (started : os.Started) (H : Type) (enc : TypeId × Value → H) :
    ReturnsInHanded {} Try.checked os 10 .any (Rows.settleWaysSpec.pre6 enc Try.prog Try.f10 Rows.settleWaysRow.domain false) (Rows.settleWaysSpec.post enc Try.prog Try.f10 false true false false) := by
  refine returnsInHanded_of_change (C := Try.checked) own started (by kernel_rfl) Try.func10
    (ChangeSpec.witness6 (enc := enc) (C := Try.checked) false ⟨#[], #[Z32.val, Z3.val, Z3.val], []⟩ 8 (by kernel_rfl) (by kernel_rfl) (by kernel_rfl) (by kernel_rfl)) ?_
  intro W base args ds gs before hval0 hW hcnd _
  have hval : ∀ (j : Nat) t v, Try.f10.params[j]? = some t → args[j]? = some v → Value.okWide Try.prog W .any base t v := hval0
  have hW' := hW
  obtain ⟨p, q, hA0, hV, rfl, hfz, hnd⟩ := hW
  have hA : DataW.TrodAll enc Try.prog W 0 (fun _ => true) true Try.f10.params.toList args.toList ds p := hA0
  rw [Try.params10] at hA hval
  obtain ⟨v0, vs0, d0, ds0, p0, q0, hargs, rfl, rfl, h0, r0⟩ := trodAll_cons hA
  obtain ⟨v1, vs1, d1, ds1, p1, q1, rfl, rfl, rfl, h1, r1⟩ := trodAll_cons r0
  obtain ⟨v2, vs2, d2, ds2, p2, q2, rfl, rfl, rfl, h2, r2⟩ := trodAll_cons r1
  obtain ⟨rfl, rfl, rfl⟩ := trodAll_nil r2
  obtain rfl : args = #[v0, v1, v2] := by cases args; simp_all
  obtain ⟨rfl, rfl⟩ := trodVars_none hV
  have k0 := h0
  have lt0 : ∀ x ∈ p0, x.block < W.heap.size := by obtain ⟨m, hm⟩ := k0; exact DataW.trod_lt m _ _ _ hm
  have k1 := h1
  have lt1 : ∀ x ∈ p1, x.block < W.heap.size := by obtain ⟨m, hm⟩ := k1; exact DataW.trod_lt m _ _ _ hm
  have k2 := h2
  have lt2 : ∀ x ∈ p2, x.block < W.heap.size := by obtain ⟨m, hm⟩ := k2; exact DataW.trod_lt m _ _ _ hm
  obtain ⟨x0, rfl, w0, s0, f0⟩ := open_data (d := 8) (sh := shK) (by kernel_rfl) (hval 0 32 v0 rfl rfl) h0
  obtain ⟨x1, rfl, w1, s1, f1⟩ := open_data (d := 8) (sh := cI) (by kernel_rfl) (hval 1 3 v1 rfl rfl) h1
  obtain ⟨x2, rfl, w2, s2, f2⟩ := open_data (d := 8) (sh := cI) (by kernel_rfl) (hval 2 3 v2 rfl rfl) h2
  clear hA0 hval0
  refine ((evF_sound env_ok fns_ok (ext := xw) xw_ok 30 10 _ _ (settleWays_data x0 w0 s0 f0 x1 w1 s1 f1 x2 w2 s2 f2)).run W [x0.val, x1.val, x2.val] ⟨⟨w0, rfl⟩, ⟨w1, rfl⟩, ⟨w2, rfl⟩, trivial⟩).mono fun e W' ⟨u, he, bel0, hr⟩ => ?_
  have bel := bel0.toK
  obtain rfl : u = .bool true := hr.2
  subst he
  exact ⟨_, rfl, _, _, _, [], _, [], hW', trodAll_mk1 (shut_bool Try.underlying4 _), trodAll_cons_mk (Go.RowKit.Below.trod laidOut (by kernel_rfl) (of_decide_eq_true (by kernel_rfl)) k0 bel lt0) (trodAll_cons_mk (Go.RowKit.Below.trod laidOut (by kernel_rfl) (of_decide_eq_true (by kernel_rfl)) k1 bel lt1) (trodAll_cons_mk (Go.RowKit.Below.trod laidOut (by kernel_rfl) (of_decide_eq_true (by kernel_rfl)) k2 bel lt2) trodAll_mk0)), rfl, bel.frame _, fun h => by cases h⟩
theorem over : Rows.settleWaysRow.holds Try.pinned (OpenSpec.ofChange Rows.settleWaysSpec) :=
  OpenClaim.holds_of_wide 10 Try.f10 rfl rfl rfl rfl rfl rfl rfl ⟨rfl, rfl, rfl, rfl, rfl⟩ rfl rfl rfl rfl rfl (by kernel_rfl) Try.func10 (by kernel_rfl)
    (of_decide_eq_true (by kernel_rfl)) (by unfold Func.isWrapper; first | (rw [if_pos (by decide +kernel)]; kernel_rfl) | (rw [if_neg (by decide +kernel)]; exact ⟨rfl, rfl⟩))
    (fun os started H enc _ => lifted os started H enc)
theorem settleWays_proved : Rows.SettleWaysSaid := over
#print axioms settleWays_proved
end Go.Proofs.Ytfbaikkadndckaa.Ev
