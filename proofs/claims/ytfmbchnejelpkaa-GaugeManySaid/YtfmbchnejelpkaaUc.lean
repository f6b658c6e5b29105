/- slices.insertionSort, of numbers: what it leaves is in order. -/
import Derived.Test.YtfmbchnejelpkaaUb
namespace Go.Proofs.Ytfmbchnejelpkaa.Ev
open Go
attribute [local congr] ob_congr sq_congr cd_congr ite_congr1 iter_congr it1_congr jumps_congr
set_option maxRecDepth 100000
set_option linter.unusedSimpArgs false
set_option linter.unusedVariables false
/-- In order up to i, but for the number at j, which is not behind what stands behind it. -/
def Sink (y : Nat → Nat) (a i j : Nat) : Prop := (∀ p q, a ≤ p → p ≤ q → q ≤ i → p ≠ j → q ≠ j → ord (y p) (y q) ≤ 0) ∧ ∀ q, j < q → q ≤ i → ord (y j) (y q) ≤ 0
theorem sink_start {y : Nat → Nat} {a i : Nat} (h : Srt y a i) : Sink y a i i := ⟨fun p q h1 h2 h3 h4 h5 => h p q h1 h2 (by omega), fun q h1 h2 => by omega⟩
theorem sink_step {y : Nat → Nat} {a i j : Nat} (h : Sink y a i (j + 1)) (ha : a ≤ j) (hj : j + 1 ≤ i) (hlt : ord (y (j + 1)) (y j) < 0) : Sink (swp y (j + 1) j) a i j := by
  have e1 : swp y (j + 1) j j = y (j + 1) := by rw [swp_at, if_pos rfl]
  have e2 : swp y (j + 1) j (j + 1) = y j := by rw [swp_at, if_neg (by omega), if_pos rfl]
  have e3 : ∀ k, k ≠ j → k ≠ j + 1 → swp y (j + 1) j k = y k := fun k h1 h2 => by rw [swp_at, if_neg h1, if_neg h2]
  refine ⟨fun p q h1 h2 h3 h4 h5 => ?_, fun q h1 h2 => ?_⟩
  · by_cases hp : p = j + 1
    · subst hp
      by_cases hq : q = j + 1
      · subst hq; rw [ord_self]; omega
      · rw [e2, e3 q h5 hq]; exact h.1 j q ha (by omega) h3 (by omega) hq
    · rw [e3 p h4 hp]
      by_cases hq : q = j + 1
      · subst hq; rw [e2]; exact h.1 p j h1 (by omega) (by omega) hp (by omega)
      · rw [e3 q h5 hq]; exact h.1 p q h1 h2 h3 hp hq
  · rw [e1]
    by_cases hq : q = j + 1
    · subst hq; rw [e2]; omega
    · rw [e3 q (by omega) hq]; exact h.2 q (by omega) h2
theorem sink_end {y : Nat → Nat} {a i j : Nat} (h : Sink y a i j) (hj : j ≤ i) (he : j ≤ a ∨ ¬ ord (y j) (y (j - 1)) < 0) : Srt y a (i + 1) := by
  intro p q h1 h2 h3
  by_cases hp : p = j
  · subst hp
    by_cases hq : q = p
    · subst hq; rw [ord_self]; omega
    · exact h.2 q (by omega) (by omega)
  · by_cases hq : q = j
    · subst hq
      rcases he with he | he
      · omega
      · have e := ord_swap (y (q - 1)) (y q)
        have h5 : ord (y p) (y (q - 1)) ≤ 0 := h.1 p (q - 1) h1 (by omega) (by omega) hp (by omega)
        exact ord_trans h5 (by omega)
    · exact h.1 p q h1 h2 (by omega) hp hq
theorem srt_one (x : Nat → Nat) (a : Nat) : Srt x a (a + 1) := srt_step fun k h1 h2 => by omega
theorem ordc_ev (d a b : Nat) : evF Try.prog env xf (d+3) 7 [.d (dF a), .d (dF b)] = some (.d (.s (.int .i64 (ord a b)))) := ord_ev d a b
theorem insertion_ev (d N : Nat) (x : Nat → Nat) (a b : Nat) (h3 : b ≤ N) (ha : a ≤ N) (hN : N ≤ 1000) :
    ∃ y, evF Try.prog env xf (d+4) 36 [.d (fa N x), .d (.s (.int .i64 ((a : Int)))), .d (.s (.int .i64 ((b : Int)))), cmpV] = some (.d (fa N y)) ∧ Mv N a b x y ∧ Srt y a b := by
  rw [evF_eqM Try.func36 (show Try.f36.body = some _ from rfl) rfl rfl rfl (by show 4 ≤ 53; decide) rfl rfl]
  have w1 := wrap_succ a (by omega)
  simp (decide := true) only [w1, Try.f36, rid, kl36_1, kl36_4, dp36_4, dp36_6, ↓sBp, sBq, List.all_cons, List.all_nil, List.map_cons, List.map_nil, D.shape, Sh.sub, Sh.size, List.getElem?_cons_zero, List.getElem?_cons_succ, Option.bind_some, Option.bind_none, Option.getD_some, Option.getD_none, V.keysIn, V.kill, V.has, decide_eq_true_eq, beq_iff_eq, bne_iff_ne, ne_eq, Bool.not_eq_true', Bool.and_true, Bool.and_self, Bool.true_and, if_true, if_false, reduceIte, Bool.false_eq_true, decide_true, decide_false, beq_self_eq_true, Bool.not_true, Bool.not_false, true_and, and_true, and_self, List.append_assoc, List.nil_append, List.cons_append, Int.toNat_natCast, ck, Int.cast_ofNat_Int, Int.reduceToNat, bne_self_eq_false, Bool.or_false, Bool.false_or, Bool.false_and, Bool.and_false, Bool.or_true, Bool.true_or]
  generalize hI : iter _ _ _ = r
  have hM := iter_meas hI (fun q : Nat × (Nat → Nat) => ⟨tab .junk [(0, .ms 53 N cF), (1, .d (.s (.int .i64 ((a : Int))))), (2, .d (.s (.int .i64 ((b : Int))))), (3, cmpV), (8, .d (.s (.int .i64 ((q.1 : Int)))))], tab none [(53, some (.box (fa N q.2)))]⟩)
    (fun q => a + 1 ≤ q.1 ∧ (q.1 ≤ b ∨ q.1 = a + 1) ∧ Mv N a b x q.2 ∧ Srt q.2 a q.1) (fun q => q.1 < b) (fun q => b - q.1) (a + 1, x) rfl
    ⟨Nat.le_refl _, .inr rfl, Mv.refl _ _ _ _, srt_one x a⟩
    (lt_loopFuel (by show b - (a + 1) < 1000000; omega))
  obtain ⟨⟨i, y⟩, l, ⟨p1, p2, p3, p4⟩, hgo, rfl⟩ := hM (by
    rintro ⟨i, y⟩ ⟨p1, p2, p3, p4⟩ hgo
    simp only at p1 p2 p3 p4 hgo
    generalize hE : loopB _ _ _ _ _ _ _ = E0
    have g1 : (i : Int) < (b : Int) := by omega
    have wi := wrap_succ i (by omega)
    simp (decide := true) only [g1, Try.f36, rid, kl36_1, kl36_4, dp36_4, dp36_6, ↓sBp, sBq, List.all_cons, List.all_nil, List.map_cons, List.map_nil, D.shape, Sh.sub, Sh.size, List.getElem?_cons_zero, List.getElem?_cons_succ, Option.bind_some, Option.bind_none, Option.getD_some, Option.getD_none, V.keysIn, V.kill, V.has, decide_eq_true_eq, beq_iff_eq, bne_iff_ne, ne_eq, Bool.not_eq_true', Bool.and_true, Bool.and_self, Bool.true_and, if_true, if_false, reduceIte, Bool.false_eq_true, decide_true, decide_false, beq_self_eq_true, Bool.not_true, Bool.not_false, true_and, and_true, and_self, List.append_assoc, List.nil_append, List.cons_append, Int.toNat_natCast, ck, Int.cast_ofNat_Int, Int.reduceToNat, bne_self_eq_false, Bool.or_false, Bool.false_or, Bool.false_and, Bool.and_false, Bool.or_true, Bool.true_or] at hE
    generalize hI2 : iter _ _ _ = r2 at hE
    have hM2 := iter_meas hI2 (fun q : Nat × (Nat → Nat) => ⟨tab .junk [(0, .ms 53 N cF), (1, .d (.s (.int .i64 ((a : Int))))), (2, .d (.s (.int .i64 ((b : Int))))), (3, cmpV), (8, .d (.s (.int .i64 ((i : Int))))), (9, .d (.s (.int .i64 ((q.1 : Int)))))], tab none [(53, some (.box (fa N q.2)))]⟩)
      (fun q => a ≤ q.1 ∧ q.1 ≤ i ∧ Mv N a b x q.2 ∧ Sink q.2 a i q.1) (fun q => a < q.1 ∧ ord (q.2 q.1) (q.2 (q.1 - 1)) < 0) (fun q => q.1) (i, y) rfl
      ⟨by show a ≤ i; omega, Nat.le_refl _, p3, sink_start p4⟩ (lt_loopFuel (by show i < 1000000; omega))
    obtain ⟨⟨j, z⟩, l2, ⟨q1, q2, q3, q4⟩, hgo2, rfl⟩ := hM2 (by
      rintro ⟨j, z⟩ ⟨q1, q2, q3, q4⟩ ⟨hgo2, hlt⟩
      simp only at q1 q2 q3 q4 hgo2 hlt
      obtain ⟨j, rfl⟩ : ∃ k, j = k + 1 := ⟨j - 1, by omega⟩
      rw [Nat.add_sub_cancel] at hlt
      have c1 : (a : Int) < ((j + 1 : Nat) : Int) := by omega
      have c2 : decide (ord (z (j + 1)) (z j) < 0) = true := by rw [decide_eq_true_iff]; exact hlt
      have wj : IntKind.i64.wrap (((j + 1 : Nat) : Int) - 1) = (j : Int) := by rw [IntWalk.i64_in _ (by omega)]; omega
      have l1 : ((j + 1 : Nat) : Int) < (N : Int) := by omega
      have l0 : (j : Int) < (N : Int) := by omega
      have n1 := i0 (j + 1)
      have n0 := i0 j
      have hsw : setN (setN z (j + 1) (z j)) j (z (j + 1)) = swp z (j + 1) j := rfl
      refine ⟨(j, swp z (j + 1) j), ?_, ⟨by show a ≤ j; omega, by show j ≤ i; omega, q3.trans (Mv.swp _ h3 (by omega) (by omega) (by omega) (by omega)) (Nat.le_refl _) (Nat.le_refl _), sink_step q4 (by omega) q2 hlt⟩, by show j < j + 1; omega⟩
      simp (decide := true) only [c1, c2, wj, l1, l0, n1, n0, ordc_ev, setN_float, hsw, Try.f36, rid, kl36_1, kl36_4, dp36_4, dp36_6, ↓sBp, sBq, List.all_cons, List.all_nil, List.map_cons, List.map_nil, D.shape, Sh.sub, Sh.size, List.getElem?_cons_zero, List.getElem?_cons_succ, Option.bind_some, Option.bind_none, Option.getD_some, Option.getD_none, V.keysIn, V.kill, V.has, decide_eq_true_eq, beq_iff_eq, bne_iff_ne, ne_eq, Bool.not_eq_true', Bool.and_true, Bool.and_self, Bool.true_and, if_true, if_false, reduceIte, Bool.false_eq_true, decide_true, decide_false, beq_self_eq_true, Bool.not_true, Bool.not_false, true_and, and_true, and_self, List.append_assoc, List.nil_append, List.cons_append, Int.toNat_natCast, ck, Int.cast_ofNat_Int, Int.reduceToNat, bne_self_eq_false, Bool.or_false, Bool.false_or, Bool.false_and, Bool.and_false, Bool.or_true, Bool.true_or])
    simp only at q1 q2 q3 q4 hgo2
    have hend : j ≤ a ∨ ¬ ord (z j) (z (j - 1)) < 0 := by
      by_cases h : a < j
      · exact .inr fun hlt => hgo2 ⟨h, hlt⟩
      · exact .inl (by omega)
    have srt := sink_end q4 q2 hend
    refine ⟨(i + 1, z), ?_, ⟨by show a + 1 ≤ i + 1; omega, .inl hgo, q3, srt⟩, by show b - (i + 1) < b - i; omega⟩
    subst hE
    by_cases h : a < j
    · obtain ⟨j, rfl⟩ : ∃ k, j = k + 1 := ⟨j - 1, by omega⟩
      rw [Nat.add_sub_cancel] at hend
      have c1 : (a : Int) < ((j + 1 : Nat) : Int) := by omega
      have c2 : decide (ord (z (j + 1)) (z j) < 0) = false := by rw [decide_eq_false_iff_not]; omega
      have wj : IntKind.i64.wrap (((j + 1 : Nat) : Int) - 1) = (j : Int) := by rw [IntWalk.i64_in _ (by omega)]; omega
      have l1 : ((j + 1 : Nat) : Int) < (N : Int) := by omega
      have l0 : (j : Int) < (N : Int) := by omega
      have n1 := i0 (j + 1)
      have n0 := i0 j
      simp (decide := true) only [c1, c2, wj, l1, l0, n1, n0, ordc_ev, wi, Try.f36, rid, kl36_1, kl36_4, dp36_4, dp36_6, ↓sBp, sBq, List.all_cons, List.all_nil, List.map_cons, List.map_nil, D.shape, Sh.sub, Sh.size, List.getElem?_cons_zero, List.getElem?_cons_succ, Option.bind_some, Option.bind_none, Option.getD_some, Option.getD_none, V.keysIn, V.kill, V.has, decide_eq_true_eq, beq_iff_eq, bne_iff_ne, ne_eq, Bool.not_eq_true', Bool.and_true, Bool.and_self, Bool.true_and, if_true, if_false, reduceIte, Bool.false_eq_true, decide_true, decide_false, beq_self_eq_true, Bool.not_true, Bool.not_false, true_and, and_true, and_self, List.append_assoc, List.nil_append, List.cons_append, Int.toNat_natCast, ck, Int.cast_ofNat_Int, Int.reduceToNat, bne_self_eq_false, Bool.or_false, Bool.false_or, Bool.false_and, Bool.and_false, Bool.or_true, Bool.true_or]
    · have c1 : ¬ (a : Int) < (j : Int) := by omega
      simp (decide := true) only [c1, wi, Try.f36, rid, kl36_1, kl36_4, dp36_4, dp36_6, ↓sBp, sBq, List.all_cons, List.all_nil, List.map_cons, List.map_nil, D.shape, Sh.sub, Sh.size, List.getElem?_cons_zero, List.getElem?_cons_succ, Option.bind_some, Option.bind_none, Option.getD_some, Option.getD_none, V.keysIn, V.kill, V.has, decide_eq_true_eq, beq_iff_eq, bne_iff_ne, ne_eq, Bool.not_eq_true', Bool.and_true, Bool.and_self, Bool.true_and, if_true, if_false, reduceIte, Bool.false_eq_true, decide_true, decide_false, beq_self_eq_true, Bool.not_true, Bool.not_false, true_and, and_true, and_self, List.append_assoc, List.nil_append, List.cons_append, Int.toNat_natCast, ck, Int.cast_ofNat_Int, Int.reduceToNat, bne_self_eq_false, Bool.or_false, Bool.false_or, Bool.false_and, Bool.and_false, Bool.or_true, Bool.true_or])
  simp only at p1 p2 p3 p4 hgo
  have g1 : ¬ (i : Int) < (b : Int) := by omega
  refine ⟨y, ?_, p3, fun p q h1 h2 h4 => p4 p q h1 h2 (by omega)⟩
  simp (decide := true) only [g1, Try.f36, rid, kl36_1, kl36_4, dp36_4, dp36_6, ↓sBp, sBq, List.all_cons, List.all_nil, List.map_cons, List.map_nil, D.shape, Sh.sub, Sh.size, List.getElem?_cons_zero, List.getElem?_cons_succ, Option.bind_some, Option.bind_none, Option.getD_some, Option.getD_none, V.keysIn, V.kill, V.has, decide_eq_true_eq, beq_iff_eq, bne_iff_ne, ne_eq, Bool.not_eq_true', Bool.and_true, Bool.and_self, Bool.true_and, if_true, if_false, reduceIte, Bool.false_eq_true, decide_true, decide_false, beq_self_eq_true, Bool.not_true, Bool.not_false, true_and, and_true, and_self, List.append_assoc, List.nil_append, List.cons_append, Int.toNat_natCast, ck, Int.cast_ofNat_Int, Int.reduceToNat, bne_self_eq_false, Bool.or_false, Bool.false_or, Bool.false_and, Bool.and_false, Bool.or_true, Bool.true_or]
end Go.Proofs.Ytfmbchnejelpkaa.Ev
