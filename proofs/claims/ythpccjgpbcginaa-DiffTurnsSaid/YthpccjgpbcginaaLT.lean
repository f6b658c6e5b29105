/- DiffTurns: all together, and by destinations; turned twice it is as it was, but for bits of no destination, and has as many: the statement. -/
import Derived.Test.YthpccjgpbcginaaDT
import Derived.Test.YthpccjgpbcginaaFacts
import Derived.Test.YthpccjgpbcginaaEvF
import Derived.Test.YthpccjgpbcginaaRows
import Derived.ProofKit
import Derived.OpenShut
namespace Go.Proofs.Ythpccjgpbcginaa.Ev
open Go
set_option linter.unusedSimpArgs false
set_option linter.unusedVariables false
def bsum (c : Nat → Bool) : Nat → Nat
  | 0 => 0
  | n + 1 => bsum c n + (c n).toNat
def nsum (f : Nat → Nat) : Nat → Nat
  | 0 => 0
  | n + 1 => nsum f n + f n
theorem nsum_add (f g : Nat → Nat) : ∀ n, nsum (fun i => f i + g i) n = nsum f n + nsum g n
  | 0 => rfl
  | n + 1 => by simp only [nsum, nsum_add f g n]; omega
theorem nsum_zero : ∀ n, nsum (fun _ => 0) n = 0
  | 0 => rfl
  | n + 1 => by simp only [nsum, nsum_zero n]
theorem bsum_swap (M : Nat → Nat → Bool) (a : Nat) : ∀ b, nsum (fun j => bsum (M j) b) a = nsum (fun m => bsum (fun j => M j m) a) b
  | 0 => by simp only [bsum, nsum]; exact nsum_zero a
  | b + 1 => by
    simp only [bsum, nsum]
    rw [nsum_add, bsum_swap M a b]
    congr 1
    induction a with
    | zero => rfl
    | succ a ih => simp only [nsum, bsum, ih]
theorem len_bsum (s : Int) : ∀ k, (listTo s k).length = bsum (fun m => has s m) k
  | 0 => rfl
  | k + 1 => by
    rw [listTo_succ]
    simp only [bsum, ← len_bsum s k]
    cases has s (k : Int) <;> simp
theorem tot_nsum (l : Nat → Int) : ∀ n, totTo l n = (nsum (fun j => bsum (fun m => has (l j) m) 16) n : Nat)
  | 0 => rfl
  | n + 1 => by
    show totTo l n + countF (l n) = _
    rw [tot_nsum l n]
    unfold countF
    rw [len_bsum]
    simp only [nsum]; omega
theorem nsum_congr {f g : Nat → Nat} : ∀ {n}, (∀ i, i < n → f i = g i) → nsum f n = nsum g n
  | 0, _ => rfl
  | n + 1, h => by simp only [nsum]; rw [nsum_congr fun i hi => h i (by omega), h n (by omega)]
theorem bsum_congr {f g : Nat → Bool} : ∀ {n}, (∀ i, i < n → f i = g i) → bsum f n = bsum g n
  | 0, _ => rfl
  | n + 1, h => by simp only [bsum]; rw [bsum_congr fun i hi => h i (by omega), h n (by omega)]
theorem tb_ffff {i : Nat} (h : i < 64) : tb 65535 i = decide (i < 16) := by
  have : ∀ i, i < 64 → tb 65535 i = decide (i < 16) := by decide
  exact this i h
theorem turn_has (l : Nat → Int) {m j : Nat} (hm : m < 16) (hj : j < 16) : has (tnO l 16 j) m = has (l m) j := by
  rw [tnO_at hj]
  exact has_setOf (tnC l j) hm
abbrev shCase : Sh := .cons (.arr 16 cI) (.cons cI (.cons cI (.cons cI .nil)))
theorem diffTurns_data (x0 : D) (w0 : x0.WF) (s0 : x0.shape = shCase) (f0 : x0.fits) : evF Try.prog env noext (30) 8 [.d x0] = some (.d (.s (.bool (true)))) := by
  obtain ⟨a, y, rfl, ha, hy⟩ := of_cons s0
  obtain ⟨b, z, rfl, hb, hz⟩ := of_cons hy
  obtain ⟨c, u, rfl, hc, hu⟩ := of_cons hz
  obtain ⟨d, v, rfl, hd, hv⟩ := of_cons hu
  obtain rfl := of_nil hv
  obtain ⟨l, rfl⟩ := of_arr16 ha w0.1
  rw [of_cell hb, of_cell hc, of_cell hd]
  obtain ⟨fa, _⟩ := f0
  have hl : ∀ i, inI (l i) := fun i => inI_of (fa i)
  refine diffTurns_ev hl _ _ _ ?_ (fun m hm => ?_) fun m j hm hj => turn_has l hm hj
  · rw [tot_nsum, tot_nsum]
    congr 1
    rw [nsum_congr (g := fun j => bsum (fun m => has (l m) j) 16) fun j hj => bsum_congr fun m hm => turn_has l hm hj]
    exact bsum_swap (fun j m => has (l m) j) 16 16
  · rw [tnO_at hm]
    refine tb_ext (inI_setOf _ _) (inI_bits _ _ _) fun i hi => ?_
    rw [show tn (tnO l 16) m 16 = setOf (tnC (tnO l 16) m) 16 from rfl, tb_setOf _ i 16 (Nat.le_refl _), tb_and, tb_ffff hi]
    by_cases h : i < 16
    · have : tnC (tnO l 16) m i = tb (l m) i := (turn_has l hm h).trans (has_nat (hl m) h)
      simp [h, this]
    · simp [h]
open Go.ChangeShapes Go.WideShapes Go.ChangeAt Go.RowKit
set_option maxRecDepth 100000
theorem own : ownKnob Try.prog.godebug = none := by kernel_rfl
theorem laidOut : laidOutB Try.prog = true := by kernel_rfl
theorem lifted (os : Os) (started : os.Started) (H : Type) (enc : TypeId × Value → H) :
    ReturnsInHanded {} Try.checked os 8 .any (Rows.diffTurnsSpec.pre6 enc Try.prog Try.f8 Rows.diffTurnsRow.domain false) (Rows.diffTurnsSpec.post enc Try.prog Try.f8 false true false false) := by
  refine returnsInHanded_of_change (C := Try.checked) own started (by kernel_rfl) Try.func8
    (ChangeSpec.witness6 (enc := enc) (C := Try.checked) false ⟨#[], #[Z24.val], []⟩ 8 (by kernel_rfl) (by kernel_rfl) (by kernel_rfl) (by kernel_rfl)) ?_
  intro W base args ds gs before hval0 hW hcnd _
  have hval : ∀ (j : Nat) t v, Try.f8.params[j]? = some t → args[j]? = some v → Value.okWide Try.prog W .any base t v := hval0
  have hW' := hW
  obtain ⟨p, q, hA0, hV, rfl, hfz, hnd⟩ := hW
  have hA : DataW.TrodAll enc Try.prog W 0 (fun _ => true) true Try.f8.params.toList args.toList ds p := hA0
  rw [Try.params8] at hA hval
  obtain ⟨v0, vs0, d0, ds0, p0, q0, hargs, rfl, rfl, h0, r0⟩ := trodAll_cons hA
  obtain ⟨rfl, rfl, rfl⟩ := trodAll_nil r0
  obtain rfl : args = #[v0] := by cases args; simp_all
  obtain ⟨rfl, rfl⟩ := trodVars_none hV
  have k0 := h0
  have lt0 : ∀ x ∈ p0, x.block < W.heap.size := by obtain ⟨m, hm⟩ := k0; exact DataW.trod_lt m _ _ _ hm
  obtain ⟨x0, rfl, w0, s0, f0⟩ := open_data (d := 8) (sh := shCase) (by kernel_rfl) (hval 0 24 v0 rfl rfl) h0
  clear hA0 hval0
  refine ((evF_sound env_ok fns_ok (ext := noext) (fun _ _ _ h => by cases h) 30 8 _ _ (diffTurns_data x0 w0 s0 f0)).run W [x0.val] ⟨⟨w0, rfl⟩, trivial⟩).mono fun e W' ⟨u, he, bel, hr⟩ => ?_
  obtain rfl : u = .bool true := hr.2
  subst he
  exact ⟨_, rfl, _, _, _, [], _, [], hW', trodAll_mk1 (shut_bool Try.underlying4 _), trodAll_cons_mk (Below.trod laidOut (by kernel_rfl) (of_decide_eq_true (by kernel_rfl)) k0 bel lt0) trodAll_mk0, rfl, bel.frame _, fun h => by cases h⟩
theorem over : Rows.diffTurnsRow.holds Try.pinned (OpenSpec.ofChange Rows.diffTurnsSpec) :=
  OpenClaim.holds_of_wide 8 Try.f8 rfl rfl rfl rfl rfl rfl rfl ⟨rfl, rfl, rfl, rfl, rfl⟩ rfl rfl rfl rfl rfl (by kernel_rfl) Try.func8 (by kernel_rfl)
    (of_decide_eq_true (by kernel_rfl)) (by unfold Func.isWrapper; first | (rw [if_pos (by decide +kernel)]; kernel_rfl) | (rw [if_neg (by decide +kernel)]; exact ⟨rfl, rfl⟩))
    (fun os started H enc _ => lifted os started H enc)
theorem diffTurns_proved : Rows.DiffTurnsSaid := over
#print axioms diffTurns_proved
end Go.Proofs.Ythpccjgpbcginaa.Ev
