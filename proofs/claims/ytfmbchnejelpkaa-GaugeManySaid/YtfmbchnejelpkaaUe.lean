/- slices.symMerge, of numbers: two parts in order become one. -/
import Derived.Test.YtfmbchnejelpkaaUd
namespace Go.Proofs.Ytfmbchnejelpkaa.Ev
open Go
attribute [local congr] ob_congr sq_congr cd_congr ite_congr1 iter_congr it1_congr jumps_congr
set_option maxRecDepth 100000
set_option linter.unusedSimpArgs false
set_option linter.unusedVariables false
theorem sym1_ev (d N : Nat) (x : Nat → Nat) (a b : Nat) (hb : a + 1 ≤ b) (hN1 : b ≤ N) (hN : N ≤ 1000) (h2 : Srt x (a + 1) b) :
    ∃ y, evF Try.prog env xf (d+4) 37 [.d (fa N x), .d (.s (.int .i64 ((a : Int)))), .d (.s (.int .i64 (((a + 1 : Nat) : Int)))), .d (.s (.int .i64 ((b : Int)))), cmpV] = some (.d (fa N y)) ∧ Mv N a b x y ∧ Srt y a b := by
  rw [evF_eqM Try.func37 (show Try.f37.body = some _ from rfl) rfl rfl rfl (by show 5 ≤ 220; decide) rfl rfl]
  have w1 := wsub (a := a + 1) (b := a) (by omega) (by omega)
  have e1 : (((a + 1 - a : Nat) : Int) == 1) = true := by rw [beq_iff_eq]; omega
  simp (decide := true) only [w1, e1, Try.f37, rid, kl37_3, kl37_9, kl37_15, kl37_21, kl37_33, dp37_5, dp37_11, dp37_17, dp37_23, dp37_35, ↓sBp, sBq, List.all_cons, List.all_nil, List.map_cons, List.map_nil, D.shape, Sh.sub, Sh.size, List.getElem?_cons_zero, List.getElem?_cons_succ, Option.bind_some, Option.bind_none, Option.getD_some, Option.getD_none, V.keysIn, V.kill, V.has, decide_eq_true_eq, beq_iff_eq, bne_iff_ne, ne_eq, Bool.not_eq_true', Bool.and_true, Bool.and_self, Bool.true_and, if_true, if_false, reduceIte, Bool.false_eq_true, decide_true, decide_false, beq_self_eq_true, Bool.not_true, Bool.not_false, true_and, and_true, and_self, List.append_assoc, List.nil_append, List.cons_append, Int.toNat_natCast, ck, Int.cast_ofNat_Int, Int.reduceToNat, bne_self_eq_false, Bool.or_false, Bool.false_or, Bool.false_and, Bool.and_false, Bool.or_true, Bool.true_or]
  generalize hI : iter _ _ _ = r
  have hM := iter_meas hI (fun q : Nat × Nat => ⟨tab .junk [(0, .ms 220 N cF), (1, .d (.s (.int .i64 ((a : Int))))), (4, cmpV), (10, .d (.s (.int .i64 ((q.1 : Int))))), (11, .d (.s (.int .i64 ((q.2 : Int)))))], tab none [(220, some (.box (fa N x)))]⟩)
    (fun q => a + 1 ≤ q.1 ∧ q.1 ≤ q.2 ∧ q.2 ≤ b ∧ (q.1 = a + 1 ∨ ord (x (q.1 - 1)) (x a) < 0) ∧ (q.2 = b ∨ ¬ ord (x q.2) (x a) < 0)) (fun q => q.1 < q.2) (fun q => q.2 - q.1) (a + 1, b) rfl
    ⟨Nat.le_refl _, hb, Nat.le_refl _, .inl rfl, .inl rfl⟩ (lt_loopFuel (by show b - (a + 1) < 1000000; omega))
  obtain ⟨⟨i, j⟩, l, ⟨p1, p2, p3, p4, p5⟩, hgo, rfl⟩ := hM (by
    rintro ⟨i, j⟩ ⟨p1, p2, p3, p4, p5⟩ hgo
    simp only at p1 p2 p3 p4 p5 hgo
    have g1 : (i : Int) < (j : Int) := by omega
    have wa := wadd (a := i) (b := j) (by omega) (by omega)
    obtain ⟨u1, u2, u3⟩ := half i j (by omega)
    have lh : (((i + j) / 2 : Nat) : Int) < (N : Int) := by omega
    have la : (a : Int) < (N : Int) := by omega
    have nh := i0 ((i + j) / 2)
    have na := i0 a
    have wh := wrap_succ ((i + j) / 2) (by omega)
    by_cases hc : ord (x ((i + j) / 2)) (x a) < 0
    · have c : decide (ord (x ((i + j) / 2)) (x a) < 0) = true := by rw [decide_eq_true_iff]; exact hc
      refine ⟨((i + j) / 2 + 1, j), ?_, ⟨by show a + 1 ≤ (i + j) / 2 + 1; omega, by show (i + j) / 2 + 1 ≤ j; omega, p3, .inr hc, p5⟩, by show j - ((i + j) / 2 + 1) < j - i; omega⟩
      simp (decide := true) only [g1, wa, u1, u2, u3, lh, la, nh, na, ordc_ev, c, wh, Try.f37, rid, kl37_3, kl37_9, kl37_15, kl37_21, kl37_33, dp37_5, dp37_11, dp37_17, dp37_23, dp37_35, ↓sBp, sBq, List.all_cons, List.all_nil, List.map_cons, List.map_nil, D.shape, Sh.sub, Sh.size, List.getElem?_cons_zero, List.getElem?_cons_succ, Option.bind_some, Option.bind_none, Option.getD_some, Option.getD_none, V.keysIn, V.kill, V.has, decide_eq_true_eq, beq_iff_eq, bne_iff_ne, ne_eq, Bool.not_eq_true', Bool.and_true, Bool.and_self, Bool.true_and, if_true, if_false, reduceIte, Bool.false_eq_true, decide_true, decide_false, beq_self_eq_true, Bool.not_true, Bool.not_false, true_and, and_true, and_self, List.append_assoc, List.nil_append, List.cons_append, Int.toNat_natCast, ck, Int.cast_ofNat_Int, Int.reduceToNat, bne_self_eq_false, Bool.or_false, Bool.false_or, Bool.false_and, Bool.and_false, Bool.or_true, Bool.true_or]
    · have c : decide (ord (x ((i + j) / 2)) (x a) < 0) = false := by rw [decide_eq_false_iff_not]; exact hc
      refine ⟨(i, (i + j) / 2), ?_, ⟨p1, by show i ≤ (i + j) / 2; omega, by show (i + j) / 2 ≤ b; omega, p4, .inr hc⟩, by show (i + j) / 2 - i < j - i; omega⟩
      simp (decide := true) only [g1, wa, u1, u2, u3, lh, la, nh, na, ordc_ev, c, Try.f37, rid, kl37_3, kl37_9, kl37_15, kl37_21, kl37_33, dp37_5, dp37_11, dp37_17, dp37_23, dp37_35, ↓sBp, sBq, List.all_cons, List.all_nil, List.map_cons, List.map_nil, D.shape, Sh.sub, Sh.size, List.getElem?_cons_zero, List.getElem?_cons_succ, Option.bind_some, Option.bind_none, Option.getD_some, Option.getD_none, V.keysIn, V.kill, V.has, decide_eq_true_eq, beq_iff_eq, bne_iff_ne, ne_eq, Bool.not_eq_true', Bool.and_true, Bool.and_self, Bool.true_and, if_true, if_false, reduceIte, Bool.false_eq_true, decide_true, decide_false, beq_self_eq_true, Bool.not_true, Bool.not_false, true_and, and_true, and_self, List.append_assoc, List.nil_append, List.cons_append, Int.toNat_natCast, ck, Int.cast_ofNat_Int, Int.reduceToNat, bne_self_eq_false, Bool.or_false, Bool.false_or, Bool.false_and, Bool.and_false, Bool.or_true, Bool.true_or])
  simp only at p1 p2 p3 p4 p5 hgo
  have hij : j = i := by omega
  subst hij
  have g1 : ¬ (j : Int) < (j : Int) := by omega
  simp (decide := true) only [g1, Try.f37, rid, kl37_3, kl37_9, kl37_15, kl37_21, kl37_33, dp37_5, dp37_11, dp37_17, dp37_23, dp37_35, ↓sBp, sBq, List.all_cons, List.all_nil, List.map_cons, List.map_nil, D.shape, Sh.sub, Sh.size, List.getElem?_cons_zero, List.getElem?_cons_succ, Option.bind_some, Option.bind_none, Option.getD_some, Option.getD_none, V.keysIn, V.kill, V.has, decide_eq_true_eq, beq_iff_eq, bne_iff_ne, ne_eq, Bool.not_eq_true', Bool.and_true, Bool.and_self, Bool.true_and, if_true, if_false, reduceIte, Bool.false_eq_true, decide_true, decide_false, beq_self_eq_true, Bool.not_true, Bool.not_false, true_and, and_true, and_self, List.append_assoc, List.nil_append, List.cons_append, Int.toNat_natCast, ck, Int.cast_ofNat_Int, Int.reduceToNat, bne_self_eq_false, Bool.or_false, Bool.false_or, Bool.false_and, Bool.and_false, Bool.or_true, Bool.true_or]
  have wj : IntKind.i64.wrap ((j : Int) - 1) = ((j - 1 : Nat) : Int) := by rw [IntWalk.i64_in _ (by omega)]; omega
  rw [iter_run (S := fun k => ⟨tab .junk [(0, .ms 220 N cF), (10, .d (.s (.int .i64 ((j : Int))))), (13, .d (.s (.int .i64 (((a + k : Nat) : Int)))))], tab none [(220, some (.box (fa N (upT x a (a + k)))))]⟩) (n := j - 1 - a) (h0 := ?h0) (hn := ?hn) (step := ?step)]
  case hn => exact lt_loopFuel (by omega)
  case h0 => rw [Nat.add_zero, upT_zero]
  case step =>
    intro k hk
    have g2 : ((a + k : Nat) : Int) < ((j - 1 : Nat) : Int) := by omega
    have wk := wrap_succ (a + k) (by omega)
    have l0 : ((a + k : Nat) : Int) < (N : Int) := by omega
    have l1 : ((a + k + 1 : Nat) : Int) < (N : Int) := by omega
    have n0 := i0 (a + k)
    have n1 := i0 (a + k + 1)
    have hsw : setN (setN (upT x a (a + k)) (a + k) (upT x a (a + k) (a + k + 1))) (a + k + 1) (upT x a (a + k) (a + k)) = upT x a (a + (k + 1)) := upT_step x (by omega)
    have e : a + (k + 1) = a + k + 1 := by omega
    rw [e] at hsw ⊢
    simp (decide := true) only [wj, g2, wk, l0, l1, n0, n1, setN_float, hsw, Try.f37, rid, kl37_3, kl37_9, kl37_15, kl37_21, kl37_33, dp37_5, dp37_11, dp37_17, dp37_23, dp37_35, ↓sBp, sBq, List.all_cons, List.all_nil, List.map_cons, List.map_nil, D.shape, Sh.sub, Sh.size, List.getElem?_cons_zero, List.getElem?_cons_succ, Option.bind_some, Option.bind_none, Option.getD_some, Option.getD_none, V.keysIn, V.kill, V.has, decide_eq_true_eq, beq_iff_eq, bne_iff_ne, ne_eq, Bool.not_eq_true', Bool.and_true, Bool.and_self, Bool.true_and, if_true, if_false, reduceIte, Bool.false_eq_true, decide_true, decide_false, beq_self_eq_true, Bool.not_true, Bool.not_false, true_and, and_true, and_self, List.append_assoc, List.nil_append, List.cons_append, Int.toNat_natCast, ck, Int.cast_ofNat_Int, Int.reduceToNat, bne_self_eq_false, Bool.or_false, Bool.false_or, Bool.false_and, Bool.and_false, Bool.or_true, Bool.true_or]
  have g2 : ¬ ((a + (j - 1 - a) : Nat) : Int) < ((j - 1 : Nat) : Int) := by omega
  refine ⟨upT x a (a + (j - 1 - a)), ?_, ?_, ?_⟩
  · simp (decide := true) only [wj, g2, Try.f37, rid, kl37_3, kl37_9, kl37_15, kl37_21, kl37_33, dp37_5, dp37_11, dp37_17, dp37_23, dp37_35, ↓sBp, sBq, List.all_cons, List.all_nil, List.map_cons, List.map_nil, D.shape, Sh.sub, Sh.size, List.getElem?_cons_zero, List.getElem?_cons_succ, Option.bind_some, Option.bind_none, Option.getD_some, Option.getD_none, V.keysIn, V.kill, V.has, decide_eq_true_eq, beq_iff_eq, bne_iff_ne, ne_eq, Bool.not_eq_true', Bool.and_true, Bool.and_self, Bool.true_and, if_true, if_false, reduceIte, Bool.false_eq_true, decide_true, decide_false, beq_self_eq_true, Bool.not_true, Bool.not_false, true_and, and_true, and_self, List.append_assoc, List.nil_append, List.cons_append, Int.toNat_natCast, ck, Int.cast_ofNat_Int, Int.reduceToNat, bne_self_eq_false, Bool.or_false, Bool.false_or, Bool.false_and, Bool.and_false, Bool.or_true, Bool.true_or]
  · have mv : ∀ k, a + k + 1 ≤ j → Mv N a b x (upT x a (a + k)) := by
      intro k
      induction k with
      | zero => intro _; rw [Nat.add_zero, upT_zero]; exact Mv.refl _ _ _ _
      | succ k ih =>
        intro hk
        have := (ih (by omega)).trans (Mv.swp (upT x a (a + k)) (i := a + k) (j := a + k + 1) hN1 (by omega) (by omega) (by omega) (by omega)) (Nat.le_refl _) (Nat.le_refl _)
        rw [upT_step x (by omega)] at this
        exact this
    exact mv _ (by omega)
  · rw [show a + (j - 1 - a) = j - 1 by omega]
    exact upT_srt h2 p1 p3 p4 p5
theorem sym2_ev (d N : Nat) (x : Nat → Nat) (a m : Nat) (ha : a + 2 ≤ m) (hN1 : m + 1 ≤ N) (hN : N ≤ 1000) (h1 : Srt x a m) :
    ∃ y, evF Try.prog env xf (d+4) 37 [.d (fa N x), .d (.s (.int .i64 ((a : Int)))), .d (.s (.int .i64 ((m : Int)))), .d (.s (.int .i64 (((m + 1 : Nat) : Int)))), cmpV] = some (.d (fa N y)) ∧ Mv N a (m + 1) x y ∧ Srt y a (m + 1) := by
  rw [evF_eqM Try.func37 (show Try.f37.body = some _ from rfl) rfl rfl rfl (by show 5 ≤ 220; decide) rfl rfl]
  have w1 := wsub (a := m) (b := a) (by omega) (by omega)
  have e1 : (((m - a : Nat) : Int) == 1) = false := by rw [beq_eq_false_iff_ne]; omega
  have w2 := wsub (a := m + 1) (b := m) (by omega) (by omega)
  have e2 : (((m + 1 - m : Nat) : Int) == 1) = true := by rw [beq_iff_eq]; omega
  simp (decide := true) only [w1, e1, w2, e2, Try.f37, rid, kl37_3, kl37_9, kl37_15, kl37_21, kl37_33, dp37_5, dp37_11, dp37_17, dp37_23, dp37_35, ↓sBp, sBq, List.all_cons, List.all_nil, List.map_cons, List.map_nil, D.shape, Sh.sub, Sh.size, List.getElem?_cons_zero, List.getElem?_cons_succ, Option.bind_some, Option.bind_none, Option.getD_some, Option.getD_none, V.keysIn, V.kill, V.has, decide_eq_true_eq, beq_iff_eq, bne_iff_ne, ne_eq, Bool.not_eq_true', Bool.and_true, Bool.and_self, Bool.true_and, if_true, if_false, reduceIte, Bool.false_eq_true, decide_true, decide_false, beq_self_eq_true, Bool.not_true, Bool.not_false, true_and, and_true, and_self, List.append_assoc, List.nil_append, List.cons_append, Int.toNat_natCast, ck, Int.cast_ofNat_Int, Int.reduceToNat, bne_self_eq_false, Bool.or_false, Bool.false_or, Bool.false_and, Bool.and_false, Bool.or_true, Bool.true_or]
  generalize hI : iter _ _ _ = r
  have hM := iter_meas hI (fun q : Nat × Nat => ⟨tab .junk [(0, .ms 220 N cF), (2, .d (.s (.int .i64 ((m : Int))))), (4, cmpV), (14, .d (.s (.int .i64 ((q.1 : Int))))), (15, .d (.s (.int .i64 ((q.2 : Int)))))], tab none [(220, some (.box (fa N x)))]⟩)
    (fun q => a ≤ q.1 ∧ q.1 ≤ q.2 ∧ q.2 ≤ m ∧ (q.1 = a ∨ ¬ ord (x m) (x (q.1 - 1)) < 0) ∧ (q.2 = m ∨ ord (x m) (x q.2) < 0)) (fun q => q.1 < q.2) (fun q => q.2 - q.1) (a, m) rfl
    ⟨Nat.le_refl _, by show a ≤ m; omega, Nat.le_refl _, .inl rfl, .inl rfl⟩ (lt_loopFuel (by show m - a < 1000000; omega))
  obtain ⟨⟨i, j⟩, l, ⟨p1, p2, p3, p4, p5⟩, hgo, rfl⟩ := hM (by
    rintro ⟨i, j⟩ ⟨p1, p2, p3, p4, p5⟩ hgo
    simp only at p1 p2 p3 p4 p5 hgo
    have g1 : (i : Int) < (j : Int) := by omega
    have wa := wadd (a := i) (b := j) (by omega) (by omega)
    obtain ⟨u1, u2, u3⟩ := half i j (by omega)
    have lh : (((i + j) / 2 : Nat) : Int) < (N : Int) := by omega
    have lm : (m : Int) < (N : Int) := by omega
    have nh := i0 ((i + j) / 2)
    have nm := i0 m
    have wh := wrap_succ ((i + j) / 2) (by omega)
    by_cases hc : ord (x m) (x ((i + j) / 2)) < 0
    · have c : decide (ord (x m) (x ((i + j) / 2)) < 0) = true := by rw [decide_eq_true_iff]; exact hc
      refine ⟨(i, (i + j) / 2), ?_, ⟨p1, by show i ≤ (i + j) / 2; omega, by show (i + j) / 2 ≤ m; omega, p4, .inr hc⟩, by show (i + j) / 2 - i < j - i; omega⟩
      simp (decide := true) only [g1, wa, u1, u2, u3, lh, lm, nh, nm, ordc_ev, c, Try.f37, rid, kl37_3, kl37_9, kl37_15, kl37_21, kl37_33, dp37_5, dp37_11, dp37_17, dp37_23, dp37_35, ↓sBp, sBq, List.all_cons, List.all_nil, List.map_cons, List.map_nil, D.shape, Sh.sub, Sh.size, List.getElem?_cons_zero, List.getElem?_cons_succ, Option.bind_some, Option.bind_none, Option.getD_some, Option.getD_none, V.keysIn, V.kill, V.has, decide_eq_true_eq, beq_iff_eq, bne_iff_ne, ne_eq, Bool.not_eq_true', Bool.and_true, Bool.and_self, Bool.true_and, if_true, if_false, reduceIte, Bool.false_eq_true, decide_true, decide_false, beq_self_eq_true, Bool.not_true, Bool.not_false, true_and, and_true, and_self, List.append_assoc, List.nil_append, List.cons_append, Int.toNat_natCast, ck, Int.cast_ofNat_Int, Int.reduceToNat, bne_self_eq_false, Bool.or_false, Bool.false_or, Bool.false_and, Bool.and_false, Bool.or_true, Bool.true_or]
    · have c : decide (ord (x m) (x ((i + j) / 2)) < 0) = false := by rw [decide_eq_false_iff_not]; exact hc
      refine ⟨((i + j) / 2 + 1, j), ?_, ⟨by show a ≤ (i + j) / 2 + 1; omega, by show (i + j) / 2 + 1 ≤ j; omega, p3, .inr hc, p5⟩, by show j - ((i + j) / 2 + 1) < j - i; omega⟩
      simp (decide := true) only [g1, wa, u1, u2, u3, lh, lm, nh, nm, ordc_ev, c, wh, Try.f37, rid, kl37_3, kl37_9, kl37_15, kl37_21, kl37_33, dp37_5, dp37_11, dp37_17, dp37_23, dp37_35, ↓sBp, sBq, List.all_cons, List.all_nil, List.map_cons, List.map_nil, D.shape, Sh.sub, Sh.size, List.getElem?_cons_zero, List.getElem?_cons_succ, Option.bind_some, Option.bind_none, Option.getD_some, Option.getD_none, V.keysIn, V.kill, V.has, decide_eq_true_eq, beq_iff_eq, bne_iff_ne, ne_eq, Bool.not_eq_true', Bool.and_true, Bool.and_self, Bool.true_and, if_true, if_false, reduceIte, Bool.false_eq_true, decide_true, decide_false, beq_self_eq_true, Bool.not_true, Bool.not_false, true_and, and_true, and_self, List.append_assoc, List.nil_append, List.cons_append, Int.toNat_natCast, ck, Int.cast_ofNat_Int, Int.reduceToNat, bne_self_eq_false, Bool.or_false, Bool.false_or, Bool.false_and, Bool.and_false, Bool.or_true, Bool.true_or])
  simp only at p1 p2 p3 p4 p5 hgo
  have hij : j = i := by omega
  subst hij
  have g1 : ¬ (j : Int) < (j : Int) := by omega
  simp (decide := true) only [g1, Try.f37, rid, kl37_3, kl37_9, kl37_15, kl37_21, kl37_33, dp37_5, dp37_11, dp37_17, dp37_23, dp37_35, ↓sBp, sBq, List.all_cons, List.all_nil, List.map_cons, List.map_nil, D.shape, Sh.sub, Sh.size, List.getElem?_cons_zero, List.getElem?_cons_succ, Option.bind_some, Option.bind_none, Option.getD_some, Option.getD_none, V.keysIn, V.kill, V.has, decide_eq_true_eq, beq_iff_eq, bne_iff_ne, ne_eq, Bool.not_eq_true', Bool.and_true, Bool.and_self, Bool.true_and, if_true, if_false, reduceIte, Bool.false_eq_true, decide_true, decide_false, beq_self_eq_true, Bool.not_true, Bool.not_false, true_and, and_true, and_self, List.append_assoc, List.nil_append, List.cons_append, Int.toNat_natCast, ck, Int.cast_ofNat_Int, Int.reduceToNat, bne_self_eq_false, Bool.or_false, Bool.false_or, Bool.false_and, Bool.and_false, Bool.or_true, Bool.true_or]
  rw [iter_run (S := fun k => ⟨tab .junk [(0, .ms 220 N cF), (14, .d (.s (.int .i64 ((j : Int))))), (17, .d (.s (.int .i64 (((m - k : Nat) : Int)))))], tab none [(220, some (.box (fa N (dnT x m (m - k)))))]⟩) (n := m - j) (h0 := ?h0) (hn := ?hn) (step := ?step)]
  case hn => exact lt_loopFuel (by omega)
  case h0 => rw [Nat.sub_zero, dnT_zero]
  case step =>
    intro k hk
    obtain ⟨q, hq⟩ : ∃ q, m - k = q + 1 := ⟨m - k - 1, by omega⟩
    have hq2 : m - (k + 1) = q := by omega
    rw [hq, hq2]
    have g2 : (j : Int) < ((q + 1 : Nat) : Int) := by omega
    have wk : IntKind.i64.wrap (((q + 1 : Nat) : Int) - 1) = (q : Int) := by rw [IntWalk.i64_in _ (by omega)]; omega
    have l0 : ((q : Nat) : Int) < (N : Int) := by omega
    have l1 : ((q + 1 : Nat) : Int) < (N : Int) := by omega
    have n0 := i0 q
    have n1 := i0 (q + 1)
    have hsw : setN (setN (dnT x m (q + 1)) (q + 1) (dnT x m (q + 1) q)) q (dnT x m (q + 1) (q + 1)) = dnT x m q := dnT_step x (by omega)
    simp (decide := true) only [g2, wk, l0, l1, n0, n1, setN_float, hsw, Try.f37, rid, kl37_3, kl37_9, kl37_15, kl37_21, kl37_33, dp37_5, dp37_11, dp37_17, dp37_23, dp37_35, ↓sBp, sBq, List.all_cons, List.all_nil, List.map_cons, List.map_nil, D.shape, Sh.sub, Sh.size, List.getElem?_cons_zero, List.getElem?_cons_succ, Option.bind_some, Option.bind_none, Option.getD_some, Option.getD_none, V.keysIn, V.kill, V.has, decide_eq_true_eq, beq_iff_eq, bne_iff_ne, ne_eq, Bool.not_eq_true', Bool.and_true, Bool.and_self, Bool.true_and, if_true, if_false, reduceIte, Bool.false_eq_true, decide_true, decide_false, beq_self_eq_true, Bool.not_true, Bool.not_false, true_and, and_true, and_self, List.append_assoc, List.nil_append, List.cons_append, Int.toNat_natCast, ck, Int.cast_ofNat_Int, Int.reduceToNat, bne_self_eq_false, Bool.or_false, Bool.false_or, Bool.false_and, Bool.and_false, Bool.or_true, Bool.true_or]
  have g2 : ¬ (j : Int) < ((m - (m - j) : Nat) : Int) := by omega
  refine ⟨dnT x m (m - (m - j)), ?_, ?_, ?_⟩
  · simp (decide := true) only [g2, Try.f37, rid, kl37_3, kl37_9, kl37_15, kl37_21, kl37_33, dp37_5, dp37_11, dp37_17, dp37_23, dp37_35, ↓sBp, sBq, List.all_cons, List.all_nil, List.map_cons, List.map_nil, D.shape, Sh.sub, Sh.size, List.getElem?_cons_zero, List.getElem?_cons_succ, Option.bind_some, Option.bind_none, Option.getD_some, Option.getD_none, V.keysIn, V.kill, V.has, decide_eq_true_eq, beq_iff_eq, bne_iff_ne, ne_eq, Bool.not_eq_true', Bool.and_true, Bool.and_self, Bool.true_and, if_true, if_false, reduceIte, Bool.false_eq_true, decide_true, decide_false, beq_self_eq_true, Bool.not_true, Bool.not_false, true_and, and_true, and_self, List.append_assoc, List.nil_append, List.cons_append, Int.toNat_natCast, ck, Int.cast_ofNat_Int, Int.reduceToNat, bne_self_eq_false, Bool.or_false, Bool.false_or, Bool.false_and, Bool.and_false, Bool.or_true, Bool.true_or]
  · have mv : ∀ k, k + j ≤ m → Mv N a (m + 1) x (dnT x m (m - k)) := by
      intro k
      induction k with
      | zero => intro _; rw [Nat.sub_zero, dnT_zero]; exact Mv.refl _ _ _ _
      | succ k ih =>
        intro hk
        obtain ⟨q, hq⟩ : ∃ q, m - k = q + 1 := ⟨m - k - 1, by omega⟩
        have ih := ih (by omega)
        rw [hq] at ih
        have := ih.trans (Mv.swp (dnT x m (q + 1)) (i := q + 1) (j := q) hN1 (by omega) (by omega) (by omega) (by omega)) (Nat.le_refl _) (Nat.le_refl _)
        rw [dnT_step x (by omega)] at this
        rw [show m - (k + 1) = q by omega]
        exact this
    exact mv _ (by omega)
  · rw [show m - (m - j) = j by omega]
    exact dnT_srt h1 p1 p3 p4 p5
end Go.Proofs.Ytfmbchnejelpkaa.Ev
