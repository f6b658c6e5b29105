/- AddsUp: in a sound tree each distance is the sum of the weights on the way there, and at most the greatest cost times its hops: the statement. -/
import Derived.Test.YthpccjgpbcginaaAU
import Derived.Test.YthpccjgpbcginaaFacts
import Derived.Test.YthpccjgpbcginaaRows
import Derived.ProofKit
import Derived.OpenShut
namespace Go.Proofs.Ythpccjgpbcginaa.Ev
open Go
set_option linter.unusedSimpArgs false
set_option linter.unusedVariables false
theorem addsUp_data (x0 : D) (w0 : x0.WF) (s0 : x0.shape = shT) (f0 : x0.fits) (x1 : D) (w1 : x1.WF) (s1 : x1.shape = cI) (f1 : x1.fits) :
    evF Try.prog env noext (30) 9 [.d x0, .d x1] = some (.d (.s (.bool (true)))) := by
  obtain ⟨e, hq⟩ := tree_open s0 w0 f0
  rw [e, of_cell s1]
  exact addsUp_ev _ _ _ fun hs j hj => adds_up (fun i => (hq i).1) (sound_iff hs) hj
open Go.ChangeShapes Go.WideShapes Go.ChangeAt Go.RowKit
set_option maxRecDepth 100000
theorem own : ownKnob Try.prog.godebug = none := by kernel_rfl
theorem laidOut : laidOutB Try.prog = true := by kernel_rfl
theorem lifted (os : Os) (started : os.Started) (H : Type) (enc : TypeId × Value → H) :
    ReturnsInHanded {} Try.checked os 9 .any (Rows.addsUpSpec.pre6 enc Try.prog Try.f9 Rows.addsUpRow.domain false) (Rows.addsUpSpec.post enc Try.prog Try.f9 false true false false) := by
  refine returnsInHanded_of_change (C := Try.checked) own started (by kernel_rfl) Try.func9
    (ChangeSpec.witness6 (enc := enc) (C := Try.checked) false ⟨#[], #[Z47.val, Z3.val], []⟩ 8 (by kernel_rfl) (by kernel_rfl) (by kernel_rfl) (by kernel_rfl)) ?_
  intro W base args ds gs before hval0 hW hcnd _
  have hval : ∀ (j : Nat) t v, Try.f9.params[j]? = some t → args[j]? = some v → Value.okWide Try.prog W .any base t v := hval0
  have hW' := hW
  obtain ⟨p, q, hA0, hV, rfl, hfz, hnd⟩ := hW
  have hA : DataW.TrodAll enc Try.prog W 0 (fun _ => true) true Try.f9.params.toList args.toList ds p := hA0
  rw [Try.params9] at hA hval
  obtain ⟨v0, vs0, d0, ds0, p0, q0, hargs, rfl, rfl, h0, r0⟩ := trodAll_cons hA
  obtain ⟨v1, vs1, d1, ds1, p1, q1, rfl, rfl, rfl, h1, r1⟩ := trodAll_cons r0
  obtain ⟨rfl, rfl, rfl⟩ := trodAll_nil r1
  obtain rfl : args = #[v0, v1] := by cases args; simp_all
  obtain ⟨rfl, rfl⟩ := trodVars_none hV
  have k0 := h0
  have lt0 : ∀ x ∈ p0, x.block < W.heap.size := by obtain ⟨m, hm⟩ := k0; exact DataW.trod_lt m _ _ _ hm
  have k1 := h1
  have lt1 : ∀ x ∈ p1, x.block < W.heap.size := by obtain ⟨m, hm⟩ := k1; exact DataW.trod_lt m _ _ _ hm
  obtain ⟨x0, rfl, w0, s0, f0⟩ := open_data (d := 8) (sh := shT) (by kernel_rfl) (hval 0 47 v0 rfl rfl) h0
  obtain ⟨x1, rfl, w1, s1, f1⟩ := open_data (d := 8) (sh := cI) (by kernel_rfl) (hval 1 3 v1 rfl rfl) h1
  clear hA0 hval0
  refine ((evF_sound env_ok fns_ok (ext := noext) (fun _ _ _ h => by cases h) 30 9 _ _ (addsUp_data x0 w0 s0 f0 x1 w1 s1 f1)).run W [x0.val, x1.val] ⟨⟨w0, rfl⟩, ⟨w1, rfl⟩, trivial⟩).mono fun e W' ⟨u, he, bel, hr⟩ => ?_
  obtain rfl : u = .bool true := hr.2
  subst he
  exact ⟨_, rfl, _, _, _, [], _, [], hW', trodAll_mk1 (shut_bool Try.underlying4 _), trodAll_cons_mk (Below.trod laidOut (by kernel_rfl) (of_decide_eq_true (by kernel_rfl)) k0 bel lt0) (trodAll_cons_mk (Below.trod laidOut (by kernel_rfl) (of_decide_eq_true (by kernel_rfl)) k1 bel lt1) trodAll_mk0), rfl, bel.frame _, fun h => by cases h⟩
theorem over : Rows.addsUpRow.holds Try.pinned (OpenSpec.ofChange Rows.addsUpSpec) :=
  OpenClaim.holds_of_wide 9 Try.f9 rfl rfl rfl rfl rfl rfl rfl ⟨rfl, rfl, rfl, rfl, rfl⟩ rfl rfl rfl rfl rfl (by kernel_rfl) Try.func9 (by kernel_rfl)
    (of_decide_eq_true (by kernel_rfl)) (by unfold Func.isWrapper; first | (rw [if_pos (by decide +kernel)]; kernel_rfl) | (rw [if_neg (by decide +kernel)]; exact ⟨rfl, rfl⟩))
    (fun os started H enc _ => lifted os started H enc)
theorem addsUp_proved : Rows.AddsUpSaid := over
#print axioms addsUp_proved
end Go.Proofs.Ythpccjgpbcginaa.Ev
