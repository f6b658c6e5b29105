/- slices.stable and SortStableFunc, of numbers: at most sixty of them come to stand in order. -/
import Derived.Test.YtfmbchnejelpkaaUf
namespace Go.Proofs.Ytfmbchnejelpkaa.Ev
open Go
attribute [local congr] ob_congr sq_congr cd_congr ite_congr1 iter_congr it1_congr jumps_congr
set_option maxRecDepth 100000
set_option linter.unusedSimpArgs false
set_option linter.unusedVariables false
def Bl (y : Nat → Nat) (N bs : Nat) : Prop :=
  (bs = 20 ∧ Srt y 0 (min 20 N) ∧ Srt y 20 (min 40 N) ∧ Srt y 40 N) ∨ (bs = 40 ∧ Srt y 0 (min 40 N) ∧ Srt y 40 N) ∨ (bs = 80 ∧ Srt y 0 N)
theorem srt_nil (x : Nat → Nat) {a b : Nat} (h : b ≤ a) : Srt x a b := fun i j h1 h2 h3 => by omega
theorem srt_sub {x : Nat → Nat} {a b a' b' : Nat} (h : Srt x a b) (h1 : a ≤ a' ∨ b' ≤ a') (h2 : b' ≤ b ∨ b' ≤ a') : Srt x a' b' := fun i j p1 p2 p3 => h i j (by omega) p2 (by omega)
/-- Blocks of twenty, up to a. -/
def Tw (y : Nat → Nat) (a : Nat) : Prop := Srt y 0 (min 20 a) ∧ Srt y 20 (min 40 a) ∧ Srt y 40 (min 60 a)
theorem tw_step {N a b : Nat} {y z : Nat → Nat} (h : Tw y a) (ha : a = 0 ∨ a = 20 ∨ a = 40 ∨ a = 60) (hb : b ≤ a + 20) (hb6 : b ≤ 60) (hab : a ≤ b) (m : Mv N a b y z) (s : Srt z a b) : Tw z b := by
  obtain ⟨h1, h2, h3⟩ := h
  have c : ∀ k, ¬ (a ≤ k ∧ k < b) → z k = y k := m.out
  rcases ha with rfl | rfl | rfl | rfl
  · exact ⟨srt_sub s (by omega) (by omega), srt_nil _ (by omega), srt_nil _ (by omega)⟩
  · exact ⟨srt_congr (fun k k1 k2 => c k (by omega)) (srt_sub h1 (by omega) (by omega)), srt_sub s (by omega) (by omega), srt_nil _ (by omega)⟩
  · exact ⟨srt_congr (fun k k1 k2 => c k (by omega)) (srt_sub h1 (by omega) (by omega)), srt_congr (fun k k1 k2 => c k (by omega)) (srt_sub h2 (by omega) (by omega)), srt_sub s (by omega) (by omega)⟩
  · exact ⟨srt_congr (fun k k1 k2 => c k (by omega)) (srt_sub h1 (by omega) (by omega)), srt_congr (fun k k1 k2 => c k (by omega)) (srt_sub h2 (by omega) (by omega)), srt_congr (fun k k1 k2 => c k (by omega)) (srt_sub h3 (by omega) (by omega))⟩
theorem tw_bl {N : Nat} {y : Nat → Nat} (h : Tw y N) (hN : N ≤ 60) : Bl y N 20 := .inl ⟨rfl, h.1, h.2.1, srt_sub h.2.2 (by omega) (by omega)⟩
theorem bl_end {N bs : Nat} {y : Nat → Nat} (h : Bl y N bs) (hN : N ≤ 60) (he : ¬ bs < N) : Srt y 0 N := by
  rcases h with ⟨rfl, h1, h2, h3⟩ | ⟨rfl, h1, h2⟩ | ⟨rfl, h1⟩
  · exact srt_sub h1 (by omega) (by omega)
  · exact srt_sub h1 (by omega) (by omega)
  · exact h1
/-- Within a pass: what is done so far. -/
def Ps (N bs : Nat) (y : Nat → Nat) (a b : Nat) (z : Nat → Nat) : Prop :=
  (a = 0 ∧ b = 2 * bs ∧ z = y) ∨ (bs = 20 ∧ a = 40 ∧ b = 80 ∧ 40 ≤ N ∧ Mv N 0 N y z ∧ Srt z 0 40 ∧ Srt z 40 N)
set_option maxHeartbeats 4000000 in
theorem stable_ev (d N : Nat) (x : Nat → Nat) (hN : N ≤ 60) (hd : N ≤ d) :
    ∃ y, evF Try.prog env xf (d+5) 35 [.d (fa N x), .d (.s (.int .i64 ((N : Int)))), cmpV] = some (.d (fa N y)) ∧ Mv N 0 N x y ∧ Srt y 0 N := by
  rw [evF_eqM Try.func35 (show Try.f35.body = some _ from rfl) rfl rfl rfl (by show 3 ≤ 63; decide) rfl rfl]
  simp (decide := true) only [Try.f35, rid, kl35_2, kl35_7, kl35_9, ↓sBp, sBq, List.all_cons, List.all_nil, List.map_cons, List.map_nil, D.shape, Sh.sub, Sh.size, List.getElem?_cons_zero, List.getElem?_cons_succ, Option.bind_some, Option.bind_none, Option.getD_some, Option.getD_none, V.keysIn, V.kill, V.has, decide_eq_true_eq, beq_iff_eq, bne_iff_ne, ne_eq, Bool.not_eq_true', Bool.and_true, Bool.and_self, Bool.true_and, if_true, if_false, reduceIte, Bool.false_eq_true, decide_true, decide_false, beq_self_eq_true, Bool.not_true, Bool.not_false, true_and, and_true, and_self, List.append_assoc, List.nil_append, List.cons_append, Int.toNat_natCast, ck, Int.cast_ofNat_Int, Int.reduceToNat, bne_self_eq_false, Bool.or_false, Bool.false_or, Bool.false_and, Bool.and_false, Bool.or_true, Bool.true_or]
  generalize hI : iter _ _ _ = r
  have hM := iter_meas hI (fun q : Nat × (Nat → Nat) => ⟨tab .junk [(0, .ms 63 N cF), (1, .d (.s (.int .i64 ((N : Int))))), (2, cmpV), (6, .d (.s (.int .i64 (((20 : Nat) : Int))))), (7, .d (.s (.int .i64 ((q.1 : Int))))), (8, .d (.s (.int .i64 (((q.1 + 20 : Nat) : Int)))))], tab none [(63, some (.box (fa N q.2)))]⟩)
    (fun q => (q.1 = 0 ∨ q.1 = 20 ∨ q.1 = 40 ∨ q.1 = 60) ∧ q.1 ≤ N ∧ Mv N 0 N x q.2 ∧ Tw q.2 q.1) (fun q => q.1 + 20 ≤ N) (fun q => N - q.1) (0, x) rfl
    ⟨.inl rfl, Nat.zero_le _, Mv.refl _ _ _ _, ⟨srt_nil _ (by show min 20 0 ≤ 0; omega), srt_nil _ (by show min 40 0 ≤ 20; omega), srt_nil _ (by show min 60 0 ≤ 40; omega)⟩⟩
    (lt_loopFuel (by show N - 0 < 1000000; omega))
  obtain ⟨⟨a, y⟩, l, ⟨p1, p2, p3, p4⟩, hgo, rfl⟩ := hM (by
    rintro ⟨a, y⟩ ⟨p1, p2, p3, p4⟩ hgo
    simp only at p1 p2 p3 p4 hgo
    have g1 : ((a + 20 : Nat) : Int) ≤ (N : Int) := by omega
    have wa : IntKind.i64.wrap (((a + 20 : Nat) : Int) + 20) = ((a + 20 + 20 : Nat) : Int) := by rw [IntWalk.i64_in _ (by omega)]; omega
    obtain ⟨z, r1, r2, r3⟩ := insertion_ev d N y a (a + 20) hgo p2 (by omega)
    refine ⟨(a + 20, z), ?_, ⟨by show a + 20 = 0 ∨ a + 20 = 20 ∨ a + 20 = 40 ∨ a + 20 = 60; omega, hgo, p3.trans r2 (Nat.zero_le _) hgo, tw_step p4 p1 (Nat.le_refl _) (by omega) (by omega) r2 r3⟩, by show N - (a + 20) < N - a; omega⟩
    simp (decide := true) only [g1, wa, r1, Try.f35, rid, kl35_2, kl35_7, kl35_9, ↓sBp, sBq, List.all_cons, List.all_nil, List.map_cons, List.map_nil, D.shape, Sh.sub, Sh.size, List.getElem?_cons_zero, List.getElem?_cons_succ, Option.bind_some, Option.bind_none, Option.getD_some, Option.getD_none, V.keysIn, V.kill, V.has, decide_eq_true_eq, beq_iff_eq, bne_iff_ne, ne_eq, Bool.not_eq_true', Bool.and_true, Bool.and_self, Bool.true_and, if_true, if_false, reduceIte, Bool.false_eq_true, decide_true, decide_false, beq_self_eq_true, Bool.not_true, Bool.not_false, true_and, and_true, and_self, List.append_assoc, List.nil_append, List.cons_append, Int.toNat_natCast, ck, Int.cast_ofNat_Int, Int.reduceToNat, bne_self_eq_false, Bool.or_false, Bool.false_or, Bool.false_and, Bool.and_false, Bool.or_true, Bool.true_or])
  simp only at p1 p2 p3 p4 hgo
  have g1 : ¬ ((a + 20 : Nat) : Int) ≤ (N : Int) := by omega
  obtain ⟨z, r1, r2, r3⟩ := insertion_ev d N y a N (Nat.le_refl _) p2 (by omega)
  have tw := tw_step p4 p1 (by omega) hN p2 r2 r3
  have mz := p3.trans r2 (Nat.zero_le _) (Nat.le_refl _)
  have bl := tw_bl tw hN
  simp (decide := true) only [g1, r1, Try.f35, rid, kl35_2, kl35_7, kl35_9, ↓sBp, sBq, List.all_cons, List.all_nil, List.map_cons, List.map_nil, D.shape, Sh.sub, Sh.size, List.getElem?_cons_zero, List.getElem?_cons_succ, Option.bind_some, Option.bind_none, Option.getD_some, Option.getD_none, V.keysIn, V.kill, V.has, decide_eq_true_eq, beq_iff_eq, bne_iff_ne, ne_eq, Bool.not_eq_true', Bool.and_true, Bool.and_self, Bool.true_and, if_true, if_false, reduceIte, Bool.false_eq_true, decide_true, decide_false, beq_self_eq_true, Bool.not_true, Bool.not_false, true_and, and_true, and_self, List.append_assoc, List.nil_append, List.cons_append, Int.toNat_natCast, ck, Int.cast_ofNat_Int, Int.reduceToNat, bne_self_eq_false, Bool.or_false, Bool.false_or, Bool.false_and, Bool.and_false, Bool.or_true, Bool.true_or]
  generalize hI : iter _ _ _ = r
  have hM := iter_meas hI (fun q : Nat × (Nat → Nat) => ⟨tab .junk [(0, .ms 63 N cF), (1, .d (.s (.int .i64 ((N : Int))))), (2, cmpV), (6, .d (.s (.int .i64 ((q.1 : Int)))))], tab none [(63, some (.box (fa N q.2)))]⟩)
    (fun q => (q.1 = 20 ∨ q.1 = 40 ∨ q.1 = 80) ∧ Mv N 0 N x q.2 ∧ Bl q.2 N q.1) (fun q => q.1 < N) (fun q => N - q.1) (20, z) rfl
    ⟨.inl rfl, mz, bl⟩
    (lt_loopFuel (by show N - 20 < 1000000; omega))
  clear bl tw mz r1 r2 r3 p3 p4
  obtain ⟨⟨bs, y⟩, l, ⟨p1, p3, p4⟩, hgo, rfl⟩ := hM (by
    rintro ⟨bs, y⟩ ⟨p1, p3, p4⟩ hgo
    simp only at p1 p3 p4 hgo
    generalize hE : loopB _ _ _ _ _ _ _ = E0
    have g1 : (bs : Int) < (N : Int) := by omega
    have wm : IntKind.i64.wrap (2 * (bs : Int)) = ((2 * bs : Nat) : Int) := by rw [IntWalk.i64_in _ (by omega)]; omega
    have wm2 : IntKind.i64.wrap ((bs : Int) * 2) = ((2 * bs : Nat) : Int) := by rw [IntWalk.i64_in _ (by omega)]; omega
    simp (decide := true) only [g1, wm, Try.f35, rid, kl35_2, kl35_7, kl35_9, ↓sBp, sBq, List.all_cons, List.all_nil, List.map_cons, List.map_nil, D.shape, Sh.sub, Sh.size, List.getElem?_cons_zero, List.getElem?_cons_succ, Option.bind_some, Option.bind_none, Option.getD_some, Option.getD_none, V.keysIn, V.kill, V.has, decide_eq_true_eq, beq_iff_eq, bne_iff_ne, ne_eq, Bool.not_eq_true', Bool.and_true, Bool.and_self, Bool.true_and, if_true, if_false, reduceIte, Bool.false_eq_true, decide_true, decide_false, beq_self_eq_true, Bool.not_true, Bool.not_false, true_and, and_true, and_self, List.append_assoc, List.nil_append, List.cons_append, Int.toNat_natCast, ck, Int.cast_ofNat_Int, Int.reduceToNat, bne_self_eq_false, Bool.or_false, Bool.false_or, Bool.false_and, Bool.and_false, Bool.or_true, Bool.true_or] at hE
    generalize hI2 : iter _ _ _ = r2 at hE
    have hM2 := iter_meas hI2 (fun q : Nat × Nat × (Nat → Nat) => ⟨tab .junk [(0, .ms 63 N cF), (1, .d (.s (.int .i64 ((N : Int))))), (2, cmpV), (6, .d (.s (.int .i64 ((bs : Int))))), (7, .d (.s (.int .i64 ((q.1 : Int))))), (8, .d (.s (.int .i64 ((q.2.1 : Int)))))], tab none [(63, some (.box (fa N q.2.2)))]⟩)
      (fun q => Ps N bs y q.1 q.2.1 q.2.2) (fun q => q.2.1 ≤ N) (fun q => N - q.1) (0, 2 * bs, y) rfl
      (.inl ⟨rfl, rfl, rfl⟩) (lt_loopFuel (by show N - 0 < 1000000; omega))
    obtain ⟨⟨a, b, z⟩, l2, q1, hgo2, rfl⟩ := hM2 (by
      rintro ⟨a, b, z⟩ q1 hgo2
      simp only at q1 hgo2
      rcases q1 with ⟨rfl, rfl, rfl⟩ | ⟨rfl, rfl, rfl, q1⟩
      · rcases p4 with ⟨rfl, h1, h2, h3⟩ | ⟨rfl, h1, h2⟩ | ⟨rfl, h1⟩
        · obtain ⟨u, r1, r2, r3⟩ := sym_ev N (by omega) (d + 4) z 0 20 40 (by omega) (by omega) (by omega) (by omega) (srt_sub h1 (by omega) (by omega)) (srt_sub h2 (by omega) (by omega))
          refine ⟨(40, 80, u), ?_, .inr ⟨rfl, rfl, rfl, hgo2, r2.wide (by omega) (by omega), r3, srt_congr (fun k k1 k2 => r2.out k (by omega)) h3⟩, by show N - 40 < N - 0; omega⟩
          have g3 : (40 : Int) ≤ (N : Int) := by omega
          have w3 : IntKind.i64.wrap ((0 : Int) + 20) = 20 := rfl
          have w4 : IntKind.i64.wrap (2 * (20 : Int)) = 40 := rfl
          have w5 : IntKind.i64.wrap ((40 : Int) + 40) = 80 := rfl
          have r1' : evF Try.prog env xf (d+4) 37 [.d (fa N z), .d (.s (.int .i64 ((0 : Int)))), .d (.s (.int .i64 ((20 : Int)))), .d (.s (.int .i64 ((40 : Int)))), cmpV] = some (.d (fa N u)) := r1
          have w0 : ((2 * 20 : Nat) : Int) = 40 := rfl
          simp (decide := true) only [w0, g3, w3, w4, w5, r1', Try.f35, rid, kl35_2, kl35_7, kl35_9, ↓sBp, sBq, List.all_cons, List.all_nil, List.map_cons, List.map_nil, D.shape, Sh.sub, Sh.size, List.getElem?_cons_zero, List.getElem?_cons_succ, Option.bind_some, Option.bind_none, Option.getD_some, Option.getD_none, V.keysIn, V.kill, V.has, decide_eq_true_eq, beq_iff_eq, bne_iff_ne, ne_eq, Bool.not_eq_true', Bool.and_true, Bool.and_self, Bool.true_and, if_true, if_false, reduceIte, Bool.false_eq_true, decide_true, decide_false, beq_self_eq_true, Bool.not_true, Bool.not_false, true_and, and_true, and_self, List.append_assoc, List.nil_append, List.cons_append, Int.toNat_natCast, ck, Int.cast_ofNat_Int, Int.reduceToNat, bne_self_eq_false, Bool.or_false, Bool.false_or, Bool.false_and, Bool.and_false, Bool.or_true, Bool.true_or]
        · omega
        · omega
      · omega)
    simp only at q1 hgo2
    have g2 : ¬ (b : Int) ≤ (N : Int) := by omega
    subst hE
    rcases q1 with ⟨rfl, rfl, rfl⟩ | ⟨rfl, rfl, rfl, q1, q2, q3, q4⟩
    · have hbs : bs = 20 ∨ bs = 40 := by omega
      have hs : Srt z 0 bs ∧ Srt z bs N := by
        rcases p4 with ⟨rfl, h1, h2, h3⟩ | ⟨rfl, h1, h2⟩ | ⟨rfl, h1⟩
        · exact ⟨srt_sub h1 (by omega) (by omega), srt_sub h2 (by omega) (by omega)⟩
        · exact ⟨srt_sub h1 (by omega) (by omega), h2⟩
        · omega
      obtain ⟨u, r1, r2, r3⟩ := sym_ev N (by omega) (d + 4) z 0 bs N (by omega) (by omega) (by omega) (by omega) hs.1 hs.2
      refine ⟨(2 * bs, u), ?_, ⟨by show 2 * bs = 20 ∨ 2 * bs = 40 ∨ 2 * bs = 80; omega, p3.trans r2 (Nat.le_refl _) (Nat.le_refl _), ?_⟩, by show N - 2 * bs < N - bs; omega⟩
      · have w3 : IntKind.i64.wrap ((0 : Int) + (bs : Int)) = (bs : Int) := by rw [IntWalk.i64_in _ (by omega)]; omega
        have r1' : evF Try.prog env xf (d+4) 37 [.d (fa N z), .d (.s (.int .i64 ((0 : Int)))), .d (.s (.int .i64 ((bs : Int)))), .d (.s (.int .i64 ((N : Int)))), cmpV] = some (.d (fa N u)) := r1
        simp (decide := true) only [g2, w3, g1, r1', wm2, Try.f35, rid, kl35_2, kl35_7, kl35_9, ↓sBp, sBq, List.all_cons, List.all_nil, List.map_cons, List.map_nil, D.shape, Sh.sub, Sh.size, List.getElem?_cons_zero, List.getElem?_cons_succ, Option.bind_some, Option.bind_none, Option.getD_some, Option.getD_none, V.keysIn, V.kill, V.has, decide_eq_true_eq, beq_iff_eq, bne_iff_ne, ne_eq, Bool.not_eq_true', Bool.and_true, Bool.and_self, Bool.true_and, if_true, if_false, reduceIte, Bool.false_eq_true, decide_true, decide_false, beq_self_eq_true, Bool.not_true, Bool.not_false, true_and, and_true, and_self, List.append_assoc, List.nil_append, List.cons_append, Int.toNat_natCast, ck, Int.cast_ofNat_Int, Int.reduceToNat, bne_self_eq_false, Bool.or_false, Bool.false_or, Bool.false_and, Bool.and_false, Bool.or_true, Bool.true_or]
      · rcases hbs with rfl | rfl
        · exact .inr (.inl ⟨rfl, srt_sub r3 (by omega) (by omega), srt_nil _ (by omega)⟩)
        · exact .inr (.inr ⟨rfl, r3⟩)
    · refine ⟨(40, z), ?_, ⟨.inr (.inl rfl), p3.trans q2 (Nat.le_refl _) (Nat.le_refl _), .inr (.inl ⟨rfl, srt_sub q3 (by omega) (by omega), q4⟩)⟩, by show N - 40 < N - 20; omega⟩
      have w3 : IntKind.i64.wrap ((40 : Int) + 20) = 60 := rfl
      have w4 : IntKind.i64.wrap ((20 : Int) * 2) = 40 := rfl
      have g3 : ¬ (60 : Int) < (N : Int) := by omega
      have g4 : ¬ (80 : Int) ≤ (N : Int) := by omega
      simp (decide := true) only [g3, g4, w3, w4, Try.f35, rid, kl35_2, kl35_7, kl35_9, ↓sBp, sBq, List.all_cons, List.all_nil, List.map_cons, List.map_nil, D.shape, Sh.sub, Sh.size, List.getElem?_cons_zero, List.getElem?_cons_succ, Option.bind_some, Option.bind_none, Option.getD_some, Option.getD_none, V.keysIn, V.kill, V.has, decide_eq_true_eq, beq_iff_eq, bne_iff_ne, ne_eq, Bool.not_eq_true', Bool.and_true, Bool.and_self, Bool.true_and, if_true, if_false, reduceIte, Bool.false_eq_true, decide_true, decide_false, beq_self_eq_true, Bool.not_true, Bool.not_false, true_and, and_true, and_self, List.append_assoc, List.nil_append, List.cons_append, Int.toNat_natCast, ck, Int.cast_ofNat_Int, Int.reduceToNat, bne_self_eq_false, Bool.or_false, Bool.false_or, Bool.false_and, Bool.and_false, Bool.or_true, Bool.true_or])
  simp only at p1 p3 p4 hgo
  have g2 : ¬ (bs : Int) < (N : Int) := by omega
  refine ⟨y, ?_, p3, bl_end p4 hN hgo⟩
  simp (decide := true) only [g2, Try.f35, rid, kl35_2, kl35_7, kl35_9, ↓sBp, sBq, List.all_cons, List.all_nil, List.map_cons, List.map_nil, D.shape, Sh.sub, Sh.size, List.getElem?_cons_zero, List.getElem?_cons_succ, Option.bind_some, Option.bind_none, Option.getD_some, Option.getD_none, V.keysIn, V.kill, V.has, decide_eq_true_eq, beq_iff_eq, bne_iff_ne, ne_eq, Bool.not_eq_true', Bool.and_true, Bool.and_self, Bool.true_and, if_true, if_false, reduceIte, Bool.false_eq_true, decide_true, decide_false, beq_self_eq_true, Bool.not_true, Bool.not_false, true_and, and_true, and_self, List.append_assoc, List.nil_append, List.cons_append, Int.toNat_natCast, ck, Int.cast_ofNat_Int, Int.reduceToNat, bne_self_eq_false, Bool.or_false, Bool.false_or, Bool.false_and, Bool.and_false, Bool.or_true, Bool.true_or]
end Go.Proofs.Ytfmbchnejelpkaa.Ev
