/- GaugeMany: sorts, middles, means and parts, of both: the statement. -/
import Derived.Test.YtfmbchnejelpkaaUr
import Derived.Test.YtfmbchnejelpkaaEvBits
import Derived.Test.YtfmbchnejelpkaaRows
import Derived.Test.YtfmbchnejelpkaaEvF
import Derived.ProofKit
import Derived.OpenShut
namespace Go.Proofs.Ytfmbchnejelpkaa.Ev
open Go
attribute [local congr] ob_congr sq_congr cd_congr ite_congr1 iter_congr it1_congr jumps_congr
set_option maxRecDepth 100000
set_option linter.unusedSimpArgs false
set_option linter.unusedVariables false
theorem fl_open {es : List D} (hg : Good cF es) : ∃ l, es = fl l := by
  induction es with
  | nil => exact ⟨[], rfl⟩
  | cons x es ih =>
    obtain ⟨l, rfl⟩ := ih fun y hy => hg y (by simp [hy])
    obtain ⟨_, h2⟩ := hg x (by simp)
    obtain ⟨b, rfl⟩ := of_f h2
    exact ⟨b :: l, rfl⟩
theorem gaugeMany_data (es : List D) (hg : Good cF es) (f1 : ∀ x ∈ es, x.fits) (l1 : es.length ≤ maxLen) (ed : List D) (hd : Good cF ed) (f2 : ∀ x ∈ ed, x.fits) (l2 : ed.length ≤ maxLen) :
    evF Try.prog env xs (81) 6 [.sl .ro cF es, .sl .ro cF ed] = some (.d (.s (.bool (true)))) := by
  obtain ⟨l, rfl⟩ := fl_open hg
  obtain ⟨e, rfl⟩ := fl_open hd
  exact many_fl l e
open Go.ChangeShapes Go.WideShapes Go.ChangeAt Go.RowKit
set_option maxRecDepth 100000
theorem own : ownKnob Try.prog.godebug = none := by kernel_rfl
theorem laidOut : laidOutB Try.prog = true := by kernel_rfl
theorem lifted (os : Os) (started : os.Started) (H : Type) (enc : TypeId × Value → H) :
    ReturnsInHanded {} Try.checked os 6 .any (Rows.gaugeManySpec.pre6 enc Try.prog Try.f6 Rows.gaugeManyRow.domain false) (Rows.gaugeManySpec.post enc Try.prog Try.f6 false true false false) := by
  refine returnsInHanded_of_change (C := Try.checked) own started (by kernel_rfl) Try.func6
    (ChangeSpec.witness6 (enc := enc) (C := Try.checked) false ⟨#[], #[.slice none 0 0, .slice none 0 0], []⟩ 8 (by kernel_rfl) (by kernel_rfl) (by kernel_rfl) (by kernel_rfl)) ?_
  intro W base args ds gs before hval0 hW hcnd _
  have hval : ∀ (j : Nat) t v, Try.f6.params[j]? = some t → args[j]? = some v → Value.okWide Try.prog W .any base t v := hval0
  have hW' := hW
  obtain ⟨p, q, hA0, hV, rfl, hfz, hnd⟩ := hW
  have hA : DataW.TrodAll enc Try.prog W 0 (fun _ => true) true Try.f6.params.toList args.toList ds p := hA0
  rw [Try.params6] at hA hval
  obtain ⟨v0, vs0, d0, ds0, p0, q0, hargs, rfl, rfl, h0, r0⟩ := trodAll_cons hA
  obtain ⟨v1, vs1, d1, ds1, p1, q1, rfl, rfl, rfl, h1, r1⟩ := trodAll_cons r0
  obtain ⟨rfl, rfl, rfl⟩ := trodAll_nil r1
  obtain rfl : args = #[v0, v1] := by cases args; simp_all
  obtain ⟨rfl, rfl⟩ := trodVars_none hV
  have k0 := h0
  have lt0 : ∀ x ∈ p0, x.block < W.heap.size := by obtain ⟨m, hm⟩ := k0; exact DataW.trod_lt m _ _ _ hm
  have k1 := h1
  have lt1 : ∀ x ∈ p1, x.block < W.heap.size := by obtain ⟨m, hm⟩ := k1; exact DataW.trod_lt m _ _ _ hm
  obtain ⟨es0, rs0, f0, l0⟩ := open_slice (d := 8) (sh := cF) (t := 37) (e := 22) (by kernel_rfl) (by kernel_rfl) (by kernel_rfl) (by decide) (hval 0 37 v0 rfl rfl) h0
  obtain ⟨es1, rs1, f1, l1⟩ := open_slice (d := 8) (sh := cF) (t := 37) (e := 22) (by kernel_rfl) (by kernel_rfl) (by kernel_rfl) (by decide) (hval 1 37 v1 rfl rfl) h1
  clear hA0 hval0
  refine ((xs_sound (k := 81) (gaugeMany_data es0 rs0.1 f0 l0 es1 rs1.1 f1 l1) rfl rfl).run W [v0, v1] ⟨rs0, rs1, trivial⟩).mono fun e W' ⟨u, he, bel0, hr⟩ => ?_
  have bel := bel0.toK
  obtain rfl : u = .bool true := hr.2
  subst he
  exact ⟨_, rfl, _, _, _, [], _, [], hW', trodAll_mk1 (shut_bool Try.underlying4 _), trodAll_cons_mk (Go.RowKit.Below.trod laidOut (by kernel_rfl) (of_decide_eq_true (by kernel_rfl)) k0 bel lt0) (trodAll_cons_mk (Go.RowKit.Below.trod laidOut (by kernel_rfl) (of_decide_eq_true (by kernel_rfl)) k1 bel lt1) trodAll_mk0), rfl, bel.frame _, fun h => by cases h⟩
theorem over : Rows.gaugeManyRow.holds Try.pinned (OpenSpec.ofChange Rows.gaugeManySpec) :=
  OpenClaim.holds_of_wide 6 Try.f6 rfl rfl rfl rfl rfl rfl rfl ⟨rfl, rfl, rfl, rfl, rfl⟩ rfl rfl rfl rfl rfl (by kernel_rfl) Try.func6 (by kernel_rfl)
    (of_decide_eq_true (by kernel_rfl)) (by unfold Func.isWrapper; first | (rw [if_pos (by decide +kernel)]; kernel_rfl) | (rw [if_neg (by decide +kernel)]; exact ⟨rfl, rfl⟩))
    (fun os started H enc _ => lifted os started H enc)
theorem gaugeMany_proved : Rows.GaugeManySaid := over
#print axioms gaugeMany_proved
end Go.Proofs.Ytfmbchnejelpkaa.Ev
