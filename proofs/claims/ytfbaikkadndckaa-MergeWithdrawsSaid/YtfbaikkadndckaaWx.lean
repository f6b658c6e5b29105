/- What is left of a tree is sound; of a sound tree all is left. -/
import Derived.Test.YtfbaikkadndckaaWr
namespace Go.Proofs.Ytfbaikkadndckaa.Ev
open Go
attribute [local congr] ob_congr sq_congr cd_congr ite_congr1 iter_congr it1_congr jumps_congr
set_option maxRecDepth 100000
set_option linter.unusedSimpArgs false
set_option linter.unusedVariables false
theorem insX_mono {X : Nat → Bool} {j i : Nat} (h : X i = true) : insX X j i = true := by simp [insX, h]
theorem passTo_mono {d p : Nat → Int} {root : Int} {X : Nat → Bool} {i : Nat} (a : Nat) (h : passTo d p root X a i = true) (b : Nat) (hb : a ≤ b) : passTo d p root X b i = true := by
  induction b with
  | zero => obtain rfl : a = 0 := by omega
            exact h
  | succ b ih =>
    by_cases e : a = b + 1
    · subst e; exact h
    · rw [passTo_succ]
      have := ih (by omega)
      split
      · exact insX_mono this
      · exact this
theorem wdTo_mono {d p : Nat → Int} {root : Int} {i : Nat} (a : Nat) (h : wdTo d p root a i = true) (b : Nat) (hb : a ≤ b) : wdTo d p root b i = true := by
  induction b with
  | zero => obtain rfl : a = 0 := by omega
            exact h
  | succ b ih =>
    by_cases e : a = b + 1
    · subst e; exact h
    · rw [wdTo_succ]
      exact passTo_mono 0 (ih (by omega)) 16 (by omega)
section
variable {d p : Nat → Int} {root : Int}
theorem pass_adds (hd : ∀ i, inU (d i)) (hr : right root = true) {X : Nat → Bool} (hX : InvX d p root X) {j : Nat} (hj : j < 16) (hne : (j : Int) ≠ root) (hw : wOk d p j = true) (hv : wV d p j ≤ 65536)
    (hp : (p j = root ∧ d root.toNat = 0) ∨ X (p j).toNat = true) : passTo d p root X 16 j = true := by
  refine passTo_mono (j + 1) ?_ 16 (by omega)
  rw [passTo_succ]
  have inv := hX.pass hd hr j (by omega)
  have hp2 : (p j = root ∧ d root.toNat = 0) ∨ passTo d p root X j (p j).toNat = true := hp.imp id fun q => passTo_mono 0 q j (by omega)
  generalize passTo d p root X j = Y at inv hp2
  rcases Bool.eq_false_or_eq_true (Y j) with q | q
  · split
    · exact insX_mono q
    · exact q
  obtain ⟨v1, v2, v3, v4, v5⟩ := wOk_nat hd hj hw
  have ho : outV (d0R root) d Y (p j).toNat = d (p j).toNat := by
    rcases hp2 with ⟨e, z⟩ | hy
    · rw [e, inv.root hr, z]
    · unfold outV; rw [if_pos hy]
  have hc : wCond d p root Y j = true := by
    unfold wCond addB
    rw [ho, q, hw, decide_eq_true hv]
    simp [hne, v3]
  rw [if_pos hc]
  simp [insX]
theorem wd_all (hd : ∀ i, inU (d i)) (h : SndT d p root) : ∀ (n j : Nat), j < 16 → (j : Int) ≠ root → d j ≠ 4294967295 → ch p (j : Int) n = root → wdTo d p root n j = true
  | 0, j, _, hne, _, hc => absurd (show (j : Int) = root from hc) hne
  | n + 1, j, hj, hne, hf, hc => by
    obtain ⟨w1, w2, w3⟩ := h.ok j hj hne hf
    obtain ⟨v1, v2, v3, v4, v5⟩ := wOk_nat hd hj w1
    rw [wdTo_succ]
    refine pass_adds hd h.hr (InvX.wd hd h.hr n) hj hne w1 w2 ?_
    by_cases e : p j = root
    · exact Or.inl ⟨e, h.d0⟩
    · right
      obtain ⟨m, hm, em⟩ := right_eq v2
      have cs : ∀ i, ch p (p (j : Int).toNat) i = ch p (j : Int) (i + 1) := fun i => by
        induction i with
        | zero => rfl
        | succ i ih => show p (ch p (p (j : Int).toNat) i).toNat = p (ch p (j : Int) (i + 1)).toNat; rw [ih]
      have hcm := (cs n).trans hc
      rw [Int.toNat_natCast, em] at hcm
      rw [em, Int.toNat_natCast] at v3
      rw [em, Int.toNat_natCast]
      exact wd_all hd h n m hm (fun q => e (em.trans q)) v3 hcm
theorem wd_same (hd : ∀ i, inU (d i)) (h : SndT d p root) (i : Nat) (hi : i < 16) : outV (d0R root) d (wdX d p root) i = d i ∧ outV farP p (wdX d p root) i = p i := by
  have e : wdX d p root = wdTo d p root 16 := by unfold wdX; rw [if_pos h.hr]
  have inv := InvX.wd (p := p) hd h.hr 16
  have hrn := right_nn h.hr
  rw [e]
  have fp : farP i = -1 := by unfold farP fillTo; rw [if_pos hi]
  by_cases hne : (i : Int) = root
  · have ei : i = root.toNat := by omega
    have nx : ¬ wdTo d p root 16 i = true := fun q => (inv i q).2.1 hne
    unfold outV
    rw [if_neg nx, if_neg nx, fp]
    subst ei
    exact ⟨(d0R_root h.hr).trans h.d0.symm, h.p0.symm⟩
  · by_cases hf : d i = 4294967295
    · have nx : ¬ wdTo d p root 16 i = true := fun q => by
        obtain ⟨_, _, c, _⟩ := inv i q
        exact (wOk_nat hd hi c).2.2.2.2 hf
      unfold outV
      rw [if_neg nx, if_neg nx, fp]
      exact ⟨(d0R_ne hi hne).trans hf.symm, (h.far i hi hne hf).symm⟩
    · obtain ⟨n, hn, _, hc, _, _⟩ := h.back hd hi hf
      have yx := wdTo_mono n (wd_all hd h n i hi hne hf hc) 16 (by omega)
      unfold outV
      rw [if_pos yx, if_pos yx]
      exact ⟨rfl, rfl⟩
theorem out_sound (hd : ∀ i, inU (d i)) (hr : right root = true) {X : Nat → Bool} (inv : InvX d p root X) : soundF (outV (d0R root) d X) (outV farP p X) root = true := by
  have hrn := right_nn hr
  have d0 := inv.root hr
  have hX : ∀ i : Nat, i < 16 → (i : Int) ≠ root → outV (d0R root) d X i ≠ 4294967295 → X i = true := fun i hi hne hf => Classical.byContradiction fun q => hf (outV_far hi (by simpa using q) hne)
  have hY : ∀ i : Nat, X i = true → outV (d0R root) d X i = d i ∧ outV farP p X i = p i := fun i q => by unfold outV; rw [if_pos q, if_pos q]; exact ⟨rfl, rfl⟩
  have hP : ∀ i : Nat, X i = true → outV (d0R root) d X (p i).toNat = d (p i).toNat := fun i q => by
    rcases (inv i q).2.2.2.2 with ⟨e, z⟩ | y
    · rw [e, d0, z]
    · exact (hY _ y).1
  have fp : ∀ i : Nat, i < 16 → X i = false → outV farP p X i = -1 := fun i hi q => by unfold outV farP fillTo; rw [q]; simp [hi]
  have step : ∀ j, right j = true → j ≠ root → outV (d0R root) d X j.toNat ≠ 4294967295 → right (outV farP p X j.toNat) = true ∧ outV (d0R root) d X (outV farP p X j.toNat).toNat ≠ 4294967295 ∧ outV (d0R root) d X (outV farP p X j.toNat).toNat < outV (d0R root) d X j.toNat := fun j hj hne hf => by
    obtain ⟨i, hi, rfl⟩ := right_eq hj
    rw [Int.toNat_natCast] at hf ⊢
    have q := hX i hi hne hf
    obtain ⟨v1, v2, v3, v4, v5⟩ := wOk_nat hd hi (inv i q).2.2.1
    rw [(hY i q).2, hP i q, (hY i q).1]
    exact ⟨v2, v3, v4⟩
  unfold soundF
  have h1 : rootF (outV (d0R root) d X) = root := by
    have e := rootF_one (d := outV (d0R root) d X) (m := root.toNat) (by omega) fun i hi => ⟨fun z => Classical.byContradiction fun hne => by
      have hne' : (i : Int) ≠ root := by omega
      have q := hX i hi hne' (by rw [z]; omega)
      obtain ⟨v1, v2, v3, v4, v5⟩ := wOk_nat hd hi (inv i q).2.2.1
      rw [(hY i q).1] at z
      have := (hd (p i).toNat).1
      omega, fun e => by rw [e]; exact d0⟩
    rw [e]; omega
  have nr : X root.toNat = false := by
    rcases Bool.eq_false_or_eq_true (X root.toNat) with q | q
    · exact absurd (by omega) (inv _ q).2.1
    · exact q
  have h2 : outV farP p X root.toNat = -1 := fp _ (by omega) nr
  rw [hr, h1, h2]
  simp only [beq_self_eq_true, Bool.true_and, List.all_eq_true, List.mem_range]
  intro j hj
  rw [Bool.or_eq_true, beq_iff_eq]
  by_cases hne : (j : Int) = root
  · exact Or.inl hne
  right
  unfold fitsF
  by_cases hf : outV (d0R root) d X j = 4294967295
  · rw [if_pos hf]
    have q : X j = false := by
      rcases Bool.eq_false_or_eq_true (X j) with q | q
      · rw [(hY j q).1] at hf
        exact absurd hf (wOk_nat hd hj (inv j q).2.2.1).2.2.2.2
      · exact q
    rw [fp j hj q]; rfl
  · rw [if_neg hf]
    have q := hX j hj hne hf
    obtain ⟨_, _, c3, c4, _⟩ := inv j q
    obtain ⟨v1, v2, v3, v4, v5⟩ := wOk_nat hd hj c3
    obtain ⟨w1, w2⟩ := wOk_of (d := outV (d0R root) d X) (p := outV farP p X) (j := (j : Int)) (outV_in hd X) (right_of hj) (by simpa using hf) (step j (right_of hj) hne (by simpa using hf)).1 (step j (right_of hj) hne (by simpa using hf)).2.1 (step j (right_of hj) hne (by simpa using hf)).2.2
    rw [Int.toNat_natCast, (hY j q).2, hP j q, (hY j q).1, ← v1] at w2
    obtain ⟨n, hn, hb, hc, _, _⟩ := back_of_mono hr step (j := (j : Int)) (right_of hj) (by simpa using hf)
    have hh := hops_of_way hb
    have hn1 : 1 ≤ n := by
      cases n with
      | zero => exact absurd (show (j : Int) = root from hc) hne
      | succ n => omega
    rw [w1, w2, hh, decide_eq_true c4, decide_eq_true (by omega)]; rfl
end
end Go.Proofs.Ytfbaikkadndckaa.Ev
