/- DiffAll: what is spread is there, with all that was; cleared one by one nothing is left: the plain law, and the statement. -/
import Derived.Test.YthpccjgpbcginaaFa
import Derived.Test.YthpccjgpbcginaaFacts
import Derived.Test.YthpccjgpbcginaaEvF
import Derived.Test.YthpccjgpbcginaaEvBits
import Derived.Test.YthpccjgpbcginaaRows
import Derived.WalkKit
import Derived.ProofKit
import Derived.OpenShut
namespace Go.Proofs.Ythpccjgpbcginaa.Ev
open Go
set_option linter.unusedSimpArgs false
set_option linter.unusedVariables false

theorem upto_at (c : Nat → Bool) (g : Nat → Int → Int) (l : Nat → Int) (i : Nat) : ∀ n, upto (fun k l => if c k = true then setN l k (g k (l k)) else l) l n i = if i < n ∧ c i = true then g i (l i) else l i
  | 0 => by simp [upto]
  | n + 1 => by
    have ih := fun j => upto_at c g l j n
    simp only [upto]
    by_cases hc : c n = true
    · simp only [hc, if_true, setN]
      by_cases hi : i = n
      · subst hi
        simp [hc, upto_at c g l i i]
      · rw [if_neg hi, upto_at c g l i n]
        have : (i < n + 1) = (i < n) := by simp; omega
        simp [this]
    · simp only [hc, if_false, Bool.false_eq_true]
      rw [upto_at c g l i n]
      by_cases hi : i = n
      · subst hi; simp [hc]
      · have : (i < n + 1) = (i < n) := by simp; omega
        simp [this]

theorem spread_at (up set : Int) (l : Nat → Int) (i : Nat) (h : i < 16) : upto (spread1 up set) l 16 i = if has up i = true then bits .or .i64 (l i) (bits .and .i64 set 65535) else l i := by
  have := upto_at (fun k => has up k) (fun _ x => bits .or .i64 x (bits .and .i64 set 65535)) l i 16
  simp only [h, true_and] at this
  exact this

theorem clear_at (l : Nat → Int) (i : Nat) (h : i < 16) : upto (fun k l => clear l k) l 16 i = 0 := by
  have := upto_at (fun k => right k) (fun _ _ => 0) l i 16
  simp only [h, right_of h, true_and, if_true] at this
  exact this

theorem diffAll_law (sets : Nat → Int) (up set n : Int) (hs : ∀ i, inI (sets i)) (hset : inI set) :
    evF Try.prog env noext 30 3 [.d (.cons (arr16 sets) (.cons (.s (.int .i64 up)) (.cons (.s (.int .i64 set)) (.cons (.s (.int .i64 n)) .nil))))] = some (.d (.s (.bool (true)))) := by
  refine diffAll_ev sets up set n (fun k hk => ?_) (fun k hk => clear_at _ k hk) ?_
  · unfold all1
    rw [spread_at up set sets k hk]
    by_cases h : has up k = true
    · simp only [h, if_true]
      refine ⟨tb_ext (inI_bits _ _ _) (hs k) fun i _ => ?_, fun _ => tb_ext (inI_bits _ _ _) (inI_bits _ _ _) fun i _ => ?_, fun h => by cases h⟩
      · simp only [tb_and, tb_or]
        cases tb (sets k) i <;> simp
      · simp only [tb_and, tb_or]
        cases tb (sets k) i <;> cases tb set i <;> cases tb 65535 i <;> rfl
    · simp only [h, if_false]
      refine ⟨tb_ext (inI_bits _ _ _) (hs k) fun i _ => ?_, fun h => ?_, fun _ => ?_⟩
      · simp only [tb_and, Bool.false_eq_true, if_false]
        cases tb (sets k) i <;> simp
      · cases h
      · simp
  · refine upto_ind (n := 16) (fun _ s => s = 0) rfl (fun k x hk hx => ?_) 16 (Nat.le_refl _)
    simp only [any1, clear_at _ k hk, if_true]
    exact hx

abbrev shCase : Sh := .cons (.arr 16 (.cell (.int .i64))) (.cons (.cell (.int .i64)) (.cons (.cell (.int .i64)) (.cons (.cell (.int .i64)) .nil)))

theorem diffAll_data (x : D) (hw : x.WF) (hs : x.shape = shCase) (hf : x.fits) : evF Try.prog env noext 30 3 [.d x] = some (.d (.s (.bool (true)))) := by
  obtain ⟨a, y, rfl, ha, hy⟩ := of_cons hs
  obtain ⟨b, z, rfl, hb, hz⟩ := of_cons hy
  obtain ⟨c, u, rfl, hc, hu⟩ := of_cons hz
  obtain ⟨d, v, rfl, hd, hv⟩ := of_cons hu
  obtain rfl := of_nil hv
  obtain ⟨l, rfl⟩ := of_arr16 ha hw.1
  rw [of_cell hb, of_cell hc, of_cell hd]
  obtain ⟨fa, fb, fc, fd, _⟩ := hf
  rw [of_cell hc] at fc
  exact diffAll_law l _ _ _ (fun i => inI_of (fa i)) (inI_of fc)

open Go.ChangeShapes Go.WideShapes Go.ChangeAt Go.RowKit

set_option maxRecDepth 100000
theorem own : ownKnob Try.prog.godebug = none := by kernel_rfl
theorem laidOut : laidOutB Try.prog = true := by kernel_rfl

theorem lifted (os : Os) (started : os.Started) (H : Type) (enc : TypeId × Value → H) :
    ReturnsInHanded {} Try.checked os 3 .any (Rows.diffAllSpec.pre6 enc Try.prog Try.f3 Rows.diffAllRow.domain false) (Rows.diffAllSpec.post enc Try.prog Try.f3 false true false false) := by
  refine returnsInHanded_of_change (C := Try.checked) own started (by kernel_rfl) Try.func3
    (ChangeSpec.witness6 (enc := enc) (C := Try.checked) false ⟨#[], #[Z24.val], []⟩ 8 (by kernel_rfl) (by kernel_rfl) (by kernel_rfl) (by kernel_rfl)) ?_
  intro W base args ds gs before hval0 hW hcnd _
  have hval : ∀ (j : Nat) t v, Try.f3.params[j]? = some t → args[j]? = some v → Value.okWide Try.prog W .any base t v := hval0
  have hW' := hW
  obtain ⟨p, q, hA0, hV, rfl, hfz, hnd⟩ := hW
  have hA : DataW.TrodAll enc Try.prog W 0 (fun _ => true) true Try.f3.params.toList args.toList ds p := hA0
  rw [Try.params3] at hA hval
  obtain ⟨v0, vs0, d0, ds0, p0, q0, hargs, rfl, rfl, h0, r0⟩ := trodAll_cons hA
  obtain ⟨rfl, rfl, rfl⟩ := trodAll_nil r0
  obtain rfl : args = #[v0] := by cases args; simp_all
  obtain ⟨rfl, rfl⟩ := trodVars_none hV
  have k0 := h0
  have lt0 : ∀ x ∈ p0, x.block < W.heap.size := by obtain ⟨m, hm⟩ := k0; exact DataW.trod_lt m _ _ _ hm
  obtain ⟨x0, rfl, w0, s0, f0⟩ := open_data (d := 8) (sh := shCase) (by kernel_rfl) (hval 0 24 v0 rfl rfl) h0
  clear hA0 hval0
  refine ((evF_sound env_ok fns_ok (ext := noext) (fun _ _ _ h => by cases h) 30 3 _ _ (diffAll_data x0 w0 s0 f0)).run W [x0.val] ⟨⟨w0, rfl⟩, trivial⟩).mono fun e W' ⟨u, he, bel, hr⟩ => ?_
  obtain rfl : u = .bool true := hr.2
  subst he
  exact ⟨_, rfl, _, _, _, [], _, [], hW', trodAll_mk1 (shut_bool Try.underlying4 _), trodAll_cons_mk (Below.trod laidOut (by kernel_rfl) (of_decide_eq_true (by kernel_rfl)) k0 bel lt0) trodAll_mk0, rfl, bel.frame _, fun h => by cases h⟩

theorem over : Rows.diffAllRow.holds Try.pinned (OpenSpec.ofChange Rows.diffAllSpec) :=
  OpenClaim.holds_of_wide 3 Try.f3 rfl rfl rfl rfl rfl rfl rfl ⟨rfl, rfl, rfl, rfl, rfl⟩ rfl rfl rfl rfl rfl (by kernel_rfl) Try.func3 (by kernel_rfl)
    (of_decide_eq_true (by kernel_rfl)) (by unfold Func.isWrapper; first | (rw [if_pos (by decide +kernel)]; kernel_rfl) | (rw [if_neg (by decide +kernel)]; exact ⟨rfl, rfl⟩))
    (fun os started H enc _ => lifted os started H enc)

theorem diffAll_proved : Rows.DiffAllSaid := over
#print axioms diffAll_proved
end Go.Proofs.Ythpccjgpbcginaa.Ev
