/- Trees that came in; ways back in a tree whose distances fall; weights. -/
import Derived.Test.YtfbaikkadndckaaAd
import Derived.Test.YtfbaikkadndckaaEvF
namespace Go.Proofs.Ytfbaikkadndckaa.Ev
open Go
attribute [local congr] ob_congr sq_congr cd_congr ite_congr1 iter_congr it1_congr jumps_congr
set_option maxRecDepth 100000
set_option linter.unusedSimpArgs false
set_option linter.unusedVariables false

theorem cons2 {a a' b b' : D} (h : a = a') (g : b = b') : D.cons a b = .cons a' b' := by rw [h, g]
def inU (x : Int) : Prop := 0 ≤ x ∧ x ≤ 4294967295
theorem inU_of {x : Int} (h : (Lit.int .u32 x).wf = true) : inU x := by
  simp [Lit.wf, IntKind.min, IntKind.max, IntKind.signed, IntKind.bits] at h
  exact ⟨by omega, by omega⟩
theorem cell_u {x : D} (h : x.shape = cU) (hf : x.fits) : x = dU (intOf x) ∧ inU (intOf x) := by
  have e := of_cell h
  refine ⟨e, ?_⟩
  rw [e] at hf
  exact inU_of hf
theorem cell_i {x : D} (h : x.shape = cI) (hf : x.fits) : x = dI (intOf x) ∧ inI (intOf x) := by
  have e := of_cell h
  refine ⟨e, ?_⟩
  rw [e] at hf
  exact inI_of hf
theorem arr_open {x : D} {n : Nat} {sh : Sh} (h : x.shape = .arr n sh) (hw : x.WF) (hf : x.fits) : x = .arr n sh (arrF x) ∧ ∀ i, (arrF x i).WF ∧ (arrF x i).shape = sh ∧ (arrF x i).fits := by
  obtain ⟨f, rfl, hq⟩ := of_arr h hw
  exact ⟨rfl, fun i => ⟨(hq i).1, (hq i).2, hf i⟩⟩
theorem cons_open {x : D} {a b : Sh} (h : x.shape = .cons a b) (hw : x.WF) (hf : x.fits) : x = .cons (hdD x) (tlD x) ∧ ((hdD x).WF ∧ (hdD x).shape = a ∧ (hdD x).fits) ∧ ((tlD x).WF ∧ (tlD x).shape = b ∧ (tlD x).fits) := by
  obtain ⟨y, z, rfl, h1, h2⟩ := of_cons h
  exact ⟨rfl, ⟨hw.1, h1, hf.1⟩, hw.2, h2, hf.2⟩
theorem ent_open {x : D} (h : x.shape = shE) (hw : x.WF) (hf : x.fits) : x = entD (entU x) (entI x) ∧ inU (entU x) ∧ inI (entI x) := by
  obtain ⟨e, ⟨w1, s1, f1⟩, w2, s2, f2⟩ := cons_open h hw hf
  obtain ⟨e2, ⟨w3, s3, f3⟩, w4, s4, f4⟩ := cons_open s2 w2 f2
  obtain ⟨q1, r1⟩ := cell_u s1 f1
  obtain ⟨q2, r2⟩ := cell_i s3 f3
  refine ⟨?_, r1, r2⟩
  rw [e, e2, q1, q2, of_nil s4]; rfl
theorem tree_open {x : D} (h : x.shape = shT) (hw : x.WF) (hf : x.fits) : x = treeD (fun i => entU (arrF x i)) (fun i => entI (arrF x i)) ∧ ∀ i, inU (entU (arrF x i)) ∧ inI (entI (arrF x i)) := by
  obtain ⟨e, q⟩ := arr_open h hw hf
  refine ⟨?_, fun i => (ent_open (q i).2.1 (q i).1 (q i).2.2).2⟩
  exact e.trans (congrArg (D.arr 16 shE) (funext fun i => (ent_open (q i).2.1 (q i).1 (q i).2.2).1))
theorem u32_id {x : Int} (h0 : 0 ≤ x) (h1 : x ≤ 4294967295) : IntKind.u32.wrap x = x := by
  have e : IntKind.u32.wrap x = x % 4294967296 := rfl
  rw [e]; omega

/-- Ways back in a tree whose distances fall. -/
theorem back_of_mono {d p : Nat → Int} {root : Int} (hr : right root = true)
    (h : ∀ j, right j = true → j ≠ root → d j.toNat ≠ 4294967295 → right (p j.toNat) = true ∧ d (p j.toNat).toNat ≠ 4294967295 ∧ d (p j.toNat).toNat < d j.toNat) {j : Int} (hj : right j = true) (hd : d j.toNat ≠ 4294967295) :
    ∃ n, n < 16 ∧ backL d p root j = wayTo p j n ∧ ch p j n = root ∧ (∀ k, k < n → ch p j k ≠ root) ∧ (∀ k, k ≤ n → right (ch p j k) = true ∧ d (ch p j k).toNat ≠ 4294967295) := by
  obtain ⟨N, hN, hs, hf⟩ := first_of (stop_ex d p root j hj)
  have fit : ∀ k, k < N → fitAt d p j k := fun k hk => (not_stop (hf k hk)).2
  have ne : ∀ k, k < N → ch p j k ≠ root := fun k hk => (not_stop (hf k hk)).1
  have good : ∀ k, k ≤ N → right (ch p j k) = true ∧ d (ch p j k).toNat ≠ 4294967295 := fun k hk => by
    cases k with
    | zero => exact ⟨hj, hd⟩
    | succ k => exact ⟨(fit k (by omega)).1, (fit k (by omega)).2.2⟩
  have dec : ∀ k, k ≤ N → ∀ i, i ≤ k → d (ch p j k).toNat ≤ d (ch p j i).toNat := by
    intro k
    induction k with
    | zero => intro _ i hi; obtain rfl : i = 0 := by omega
              exact Int.le_refl _
    | succ k ih =>
      intro hk i hi
      by_cases e : i = k + 1
      · subst e; exact Int.le_refl _
      · have h1 := ih (by omega) i (by omega)
        have h2 := (h (ch p j k) (good k (by omega)).1 (ne k (by omega)) (good k (by omega)).2).2.2
        have h2 : d (ch p j (k + 1)).toNat < d (ch p j k).toNat := h2
        omega
  have hroot : ch p j N = root := by
    refine Classical.byContradiction fun hne => ?_
    have nf := hs.resolve_left hne
    obtain ⟨q1, q2, q3⟩ := h (ch p j N) (good N (Nat.le_refl _)).1 hne (good N (Nat.le_refl _)).2
    refine nf ⟨q1, ?_, q2⟩
    cases hh : has (seenS p j N) (ch p j (N + 1)) with
    | false => rfl
    | true =>
      obtain ⟨i, hi, e, _⟩ := seen_iff p j N _ hh
      have h1 := dec N (Nat.le_refl _) i hi
      have q3 : d (ch p j (N + 1)).toNat < d (ch p j N).toNat := q3
      rw [e] at q3
      omega
  exact ⟨N, hN, backL_of hN hr (by rw [gd_of hj]; exact hd) hf hroot, hroot, ne, good⟩
theorem hops_of_way {d p : Nat → Int} {root j : Int} {n : Nat} (h : backL d p root j = wayTo p j n) : hopsF d p root j = n := by
  unfold hopsF; rw [h, wayTo_len]; omega

theorem zeroTo_one {d : Nat → Int} {m : Nat} (h : ∀ i, i < 16 → (d i = 0 ↔ i = m)) : ∀ k, k ≤ 16 → zeroTo d k = if m < k then (m : Int) else -1
  | 0, _ => by simp [zeroTo, upto]
  | k + 1, hk => by
    rw [zeroTo_succ, zeroTo_one h k (by omega)]
    by_cases e : k = m
    · subst e; rw [if_pos ((h k (by omega)).2 rfl)]; simp
    · have e' : ¬ d k = 0 := fun q => e ((h k (by omega)).1 q)
      rw [if_neg e']
      by_cases q : m < k
      · rw [if_pos q, if_pos (by omega)]
      · rw [if_neg q, if_neg (by omega)]
theorem rootF_one {d : Nat → Int} {m : Nat} (hm : m < 16) (h : ∀ i, i < 16 → (d i = 0 ↔ i = m)) : rootF d = m := by
  unfold rootF
  have hn : ¬ ∃ q, q < 16 ∧ d q = 0 ∧ 0 ≤ zeroTo d q := by
    rintro ⟨q, hq, h1, h2⟩
    obtain rfl := (h q hq).1 h1
    rw [zeroTo_one h q (by omega), if_neg (by omega)] at h2
    omega
  rw [if_neg hn, zeroTo_one h 16 (Nat.le_refl _), if_pos hm]

theorem gd_in {d : Nat → Int} (h : ∀ i, inU (d i)) (j : Int) : inU (gd d j) := by
  unfold gd; split
  · exact h _
  · exact ⟨by omega, by omega⟩
theorem wV_of {d p : Nat → Int} {j : Int} (hd : ∀ i, inU (d i)) (h : wOk d p j = true) : wV d p j = gd d j - d (gp p j).toNat ∧ right (gp p j) = true ∧ d (gp p j).toNat ≠ 4294967295 ∧ d (gp p j).toNat < gd d j ∧ gd d j ≠ 4294967295 := by
  have h' := h
  simp only [wOk, Bool.and_eq_true, bne_iff_ne, ne_eq, decide_eq_true_eq] at h'
  obtain ⟨h1, h2, h3, h4⟩ := h'
  refine ⟨?_, h2, h3, h4, h1⟩
  unfold wV
  rw [if_pos h]
  have a := gd_in hd j
  have b := hd (gp p j).toNat
  exact u32_id (by omega) (by have := a.2; have := b.1; omega)
theorem wOk_of {d p : Nat → Int} {j : Int} (hd : ∀ i, inU (d i)) (hj : right j = true) (h1 : d j.toNat ≠ 4294967295) (h2 : right (p j.toNat) = true) (h3 : d (p j.toNat).toNat ≠ 4294967295) (h4 : d (p j.toNat).toNat < d j.toNat) : wOk d p j = true ∧ wV d p j = d j.toNat - d (p j.toNat).toNat := by
  have e : wOk d p j = true := by
    simp only [wOk, gd_of hj, gp_of hj, Bool.and_eq_true, bne_iff_ne, ne_eq, decide_eq_true_eq]
    exact ⟨h1, h2, h3, h4⟩
  refine ⟨e, ?_⟩
  rw [(wV_of hd e).1, gd_of hj, gp_of hj]


/-- What a sound tree is. -/
structure SndT (d p : Nat → Int) (root : Int) : Prop where
  hr : right root = true
  d0 : d root.toNat = 0
  p0 : p root.toNat = -1
  far : ∀ j : Nat, j < 16 → (j : Int) ≠ root → d j = 4294967295 → p j = -1
  ok : ∀ j : Nat, j < 16 → (j : Int) ≠ root → d j ≠ 4294967295 → wOk d p j = true ∧ wV d p j ≤ 65536 ∧ 1 ≤ hopsF d p root j
theorem zeroTo_zero {d : Nat → Int} : ∀ k, 0 ≤ zeroTo d k → ∃ m : Nat, m < k ∧ zeroTo d k = m ∧ d m = 0
  | 0, h => by simp [zeroTo, upto] at h
  | k + 1, h => by
    rw [zeroTo_succ] at h ⊢
    by_cases e : d k = 0
    · rw [if_pos e]; exact ⟨k, by omega, rfl, e⟩
    · rw [if_neg e] at h ⊢
      obtain ⟨m, h1, h2, h3⟩ := zeroTo_zero k h
      exact ⟨m, by omega, h2, h3⟩
theorem rootF_d {d : Nat → Int} {root : Int} (hr : right root = true) (h : rootF d = root) : d root.toNat = 0 := by
  have h0 := (right_nn hr).1
  unfold rootF at h
  split at h
  · omega
  · obtain ⟨m, h1, h2, h3⟩ := zeroTo_zero (d := d) 16 (by omega)
    have : root.toNat = m := by omega
    rw [this]; exact h3
theorem sound_iff {d p : Nat → Int} {root : Int} (h : soundF d p root = true) : SndT d p root := by
  unfold soundF at h
  simp only [Bool.and_eq_true, beq_iff_eq, List.all_eq_true] at h
  obtain ⟨h1, h2, h3, h4⟩ := h
  refine ⟨h1, rootF_d h1 h2, h3, fun j hj hne hd => ?_, fun j hj hne hd => ?_⟩
  · have := h4 j (by simpa using hj)
    rw [Bool.or_eq_true] at this
    rcases this with q | q
    · exact absurd (by simpa using q) hne
    · unfold fitsF at q; rw [if_pos hd] at q; simpa using q
  · have := h4 j (by simpa using hj)
    rw [Bool.or_eq_true] at this
    rcases this with q | q
    · exact absurd (by simpa using q) hne
    · unfold fitsF at q; rw [if_neg hd] at q
      simp only [Bool.and_eq_true, decide_eq_true_eq] at q
      exact q
section
variable {d p : Nat → Int} {root : Int}
theorem SndT.step (h : SndT d p root) (hd : ∀ i, inU (d i)) : ∀ j, right j = true → j ≠ root → d j.toNat ≠ 4294967295 → right (p j.toNat) = true ∧ d (p j.toNat).toNat ≠ 4294967295 ∧ d (p j.toNat).toNat < d j.toNat := fun j hj hne hf => by
  obtain ⟨i, hi, rfl⟩ := right_eq hj
  rw [Int.toNat_natCast] at hf ⊢
  obtain ⟨w1, w2, w3⟩ := h.ok i hi hne hf
  obtain ⟨v1, v2, v3, v4, v5⟩ := wV_of hd w1
  rw [gp_of (right_of hi), Int.toNat_natCast] at v2 v3 v4
  rw [gd_of (right_of hi), Int.toNat_natCast] at v4
  exact ⟨v2, v3, v4⟩
theorem SndT.back (h : SndT d p root) (hd : ∀ i, inU (d i)) {j : Nat} (hj : j < 16) (hf : d j ≠ 4294967295) :
    ∃ n, n < 16 ∧ backL d p root j = wayTo p j n ∧ ch p j n = root ∧ (∀ k, k < n → ch p j k ≠ root) ∧ (∀ k, k ≤ n → right (ch p j k) = true ∧ d (ch p j k).toNat ≠ 4294967295) :=
  back_of_mono h.hr (h.step hd) (right_of hj) (by simpa using hf)
end
end Go.Proofs.Ytfbaikkadndckaa.Ev
