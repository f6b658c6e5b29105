/- slices.swapRange and rotate, of numbers: what they leave. -/
import Derived.Test.YtfmbchnejelpkaaUa
namespace Go.Proofs.Ytfmbchnejelpkaa.Ev
open Go
attribute [local congr] ob_congr sq_congr cd_congr ite_congr1 iter_congr it1_congr jumps_congr
set_option maxRecDepth 100000
set_option linter.unusedSimpArgs false
set_option linter.unusedVariables false
def swr (x : Nat → Nat) (a b : Nat) : Nat → (Nat → Nat)
  | 0 => x
  | k + 1 => swp (swr x a b k) (a + k) (b + k)
theorem swr_at (x : Nat → Nat) (a b : Nat) : ∀ n, (a + n ≤ b ∨ b + n ≤ a) → ∀ k, swr x a b n k = if a ≤ k ∧ k < a + n then x (k - a + b) else if b ≤ k ∧ k < b + n then x (k - b + a) else x k
  | 0, _, k => by rw [if_neg (by omega), if_neg (by omega)]; rfl
  | n + 1, h, k => by
    have ih := swr_at x a b n (by omega)
    have i1 : swr x a b n (a + n) = x (a + n) := by rw [ih, if_neg (by omega), if_neg (by omega)]
    have i2 : swr x a b n (b + n) = x (b + n) := by rw [ih, if_neg (by omega), if_neg (by omega)]
    show swp (swr x a b n) (a + n) (b + n) k = _
    rw [swp_at, i1, i2, ih k]
    repeat' split
    all_goals first | rfl | (exfalso; omega) | (congr 1; omega)
theorem swr_mv {N lo hi a b : Nat} (x : Nat → Nat) (hN : hi ≤ N) (h1 : lo ≤ a) (h2 : lo ≤ b) : ∀ n, a + n ≤ hi → b + n ≤ hi → Mv N lo hi x (swr x a b n)
  | 0, _, _ => Mv.refl _ _ _ _
  | n + 1, h3, h4 => (swr_mv x hN h1 h2 n (by omega) (by omega)).trans (Mv.swp _ hN (by omega) (by omega) (by omega) (by omega)) (Nat.le_refl _) (Nat.le_refl _)
theorem swapRange_ev (d N : Nat) (x : Nat → Nat) (a b n : Nat) (h1 : a + n ≤ N) (h2 : b + n ≤ N) (hN : N ≤ 1000) :
    evF Try.prog env xf (d+1) 39 [.d (fa N x), .d (.s (.int .i64 ((a : Int)))), .d (.s (.int .i64 ((b : Int)))), .d (.s (.int .i64 ((n : Int)))), cmpV] = some (.d (fa N (swr x a b n))) := by
  rw [evF_eqM Try.func39 (show Try.f39.body = some _ from rfl) rfl rfl rfl (by show 5 ≤ 38; decide) rfl rfl]
  simp (decide := true) only [Try.f39, rid, kl39_1, dp39_3, ↓sBp, sBq, List.all_cons, List.all_nil, List.map_cons, List.map_nil, D.shape, Sh.sub, Sh.size, List.getElem?_cons_zero, List.getElem?_cons_succ, Option.bind_some, Option.bind_none, Option.getD_some, Option.getD_none, V.keysIn, V.kill, V.has, decide_eq_true_eq, beq_iff_eq, bne_iff_ne, ne_eq, Bool.not_eq_true', Bool.and_true, Bool.and_self, Bool.true_and, if_true, if_false, reduceIte, Bool.false_eq_true, decide_true, decide_false, beq_self_eq_true, Bool.not_true, Bool.not_false, true_and, and_true, and_self, List.append_assoc, List.nil_append, List.cons_append, Int.toNat_natCast, ck, Int.cast_ofNat_Int, Int.reduceToNat, bne_self_eq_false, Bool.or_false, Bool.false_or, Bool.false_and, Bool.and_false, Bool.or_true, Bool.true_or]
  rw [iter_run (S := fun k => ⟨tab .junk [(0, .ms 38 N cF), (1, .d (.s (.int .i64 ((a : Int))))), (2, .d (.s (.int .i64 ((b : Int))))), (3, .d (.s (.int .i64 ((n : Int))))), (10, .d (.s (.int .i64 ((k : Int)))))], tab none [(38, some (.box (fa N (swr x a b k))))]⟩) (n := n) (h0 := ?h0) (hn := ?hn) (step := ?step)]
  case hn => exact lt_loopFuel (by omega)
  case h0 => rfl
  case step =>
    intro k hk
    have hk1 : (k : Int) < (n : Int) := by omega
    have hkw := wrap_succ k (by omega)
    have wa := wadd (a := a) (b := k) (by omega) (by omega)
    have wb := wadd (a := b) (b := k) (by omega) (by omega)
    have la : ((a + k : Nat) : Int) < (N : Int) := by omega
    have lb : ((b + k : Nat) : Int) < (N : Int) := by omega
    have na := i0 (a + k)
    have nb := i0 (b + k)
    have hsw : setN (setN (swr x a b k) (a + k) (swr x a b k (b + k))) (b + k) (swr x a b k (a + k)) = swr x a b (k + 1) := rfl
    simp (decide := true) only [hk1, hkw, wa, wb, la, lb, na, nb, setN_float, hsw, Try.f39, rid, kl39_1, dp39_3, ↓sBp, sBq, List.all_cons, List.all_nil, List.map_cons, List.map_nil, D.shape, Sh.sub, Sh.size, List.getElem?_cons_zero, List.getElem?_cons_succ, Option.bind_some, Option.bind_none, Option.getD_some, Option.getD_none, V.keysIn, V.kill, V.has, decide_eq_true_eq, beq_iff_eq, bne_iff_ne, ne_eq, Bool.not_eq_true', Bool.and_true, Bool.and_self, Bool.true_and, if_true, if_false, reduceIte, Bool.false_eq_true, decide_true, decide_false, beq_self_eq_true, Bool.not_true, Bool.not_false, true_and, and_true, and_self, List.append_assoc, List.nil_append, List.cons_append, Int.toNat_natCast, ck, Int.cast_ofNat_Int, Int.reduceToNat, bne_self_eq_false, Bool.or_false, Bool.false_or, Bool.false_and, Bool.and_false, Bool.or_true, Bool.true_or]
  have hk1 : ¬ (n : Int) < (n : Int) := by omega
  simp (decide := true) only [hk1, Try.f39, rid, kl39_1, dp39_3, ↓sBp, sBq, List.all_cons, List.all_nil, List.map_cons, List.map_nil, D.shape, Sh.sub, Sh.size, List.getElem?_cons_zero, List.getElem?_cons_succ, Option.bind_some, Option.bind_none, Option.getD_some, Option.getD_none, V.keysIn, V.kill, V.has, decide_eq_true_eq, beq_iff_eq, bne_iff_ne, ne_eq, Bool.not_eq_true', Bool.and_true, Bool.and_self, Bool.true_and, if_true, if_false, reduceIte, Bool.false_eq_true, decide_true, decide_false, beq_self_eq_true, Bool.not_true, Bool.not_false, true_and, and_true, and_self, List.append_assoc, List.nil_append, List.cons_append, Int.toNat_natCast, ck, Int.cast_ofNat_Int, Int.reduceToNat, bne_self_eq_false, Bool.or_false, Bool.false_or, Bool.false_and, Bool.and_false, Bool.or_true, Bool.true_or]
/-- The parts from a and from m change places. -/
def rot (x : Nat → Nat) (a m b : Nat) : Nat → Nat := fun k => if a ≤ k ∧ k < a + (b - m) then x (k + (m - a)) else if a + (b - m) ≤ k ∧ k < b then x (k - (b - m)) else x k
theorem rot_gt {y : Nat → Nat} {m i j : Nat} (hi : i ≤ m) (hij : j < i) : rot (swr y (m - i) m j) (m - (i - j)) m (m + j) = rot y (m - i) m (m + j) := by
  funext k
  unfold rot
  simp only [swr_at y (m - i) m j (by omega)]
  repeat' split
  all_goals first | rfl | (exfalso; omega) | (congr 1; omega)
theorem rot_lt {y : Nat → Nat} {m i j : Nat} (hi : i ≤ m) (hij : i < j) : rot (swr y (m - i) (m + j - i) i) (m - i) m (m + (j - i)) = rot y (m - i) m (m + j) := by
  funext k
  unfold rot
  simp only [swr_at y (m - i) (m + j - i) i (by omega)]
  repeat' split
  all_goals first | rfl | (exfalso; omega) | (congr 1; omega)
theorem rot_eq {y : Nat → Nat} {m i : Nat} (hi : i ≤ m) : swr y (m - i) m i = rot y (m - i) m (m + i) := by
  funext k
  unfold rot
  rw [swr_at y (m - i) m i (by omega)]
  repeat' split
  all_goals first | rfl | (exfalso; omega) | (congr 1; omega)
theorem rotate_ev (d N : Nat) (x : Nat → Nat) (a m b : Nat) (h1 : a < m) (h2 : m < b) (h3 : b ≤ N) (hN : N ≤ 1000) :
    ∃ y, evF Try.prog env xf (d+2) 38 [.d (fa N x), .d (.s (.int .i64 ((a : Int)))), .d (.s (.int .i64 ((m : Int)))), .d (.s (.int .i64 ((b : Int)))), cmpV] = some (.d (fa N y)) ∧ Mv N a b x y ∧ y = rot x a m b := by
  rw [evF_eqM Try.func38 (show Try.f38.body = some _ from rfl) rfl rfl rfl (by show 5 ≤ 58; decide) rfl rfl]
  have w1 := wsub (a := m) (b := a) (by omega) (by omega)
  have w2 := wsub (a := b) (b := m) (by omega) (by omega)
  simp (decide := true) only [w1, w2, Try.f38, rid, kl38_2, ↓sBp, sBq, List.all_cons, List.all_nil, List.map_cons, List.map_nil, D.shape, Sh.sub, Sh.size, List.getElem?_cons_zero, List.getElem?_cons_succ, Option.bind_some, Option.bind_none, Option.getD_some, Option.getD_none, V.keysIn, V.kill, V.has, decide_eq_true_eq, beq_iff_eq, bne_iff_ne, ne_eq, Bool.not_eq_true', Bool.and_true, Bool.and_self, Bool.true_and, if_true, if_false, reduceIte, Bool.false_eq_true, decide_true, decide_false, beq_self_eq_true, Bool.not_true, Bool.not_false, true_and, and_true, and_self, List.append_assoc, List.nil_append, List.cons_append, Int.toNat_natCast, ck, Int.cast_ofNat_Int, Int.reduceToNat, bne_self_eq_false, Bool.or_false, Bool.false_or, Bool.false_and, Bool.and_false, Bool.or_true, Bool.true_or]
  generalize hI : iter _ _ _ = r
  have hM := iter_meas hI (fun q : Nat × Nat × (Nat → Nat) => ⟨tab .junk [(0, .ms 58 N cF), (2, .d (.s (.int .i64 ((m : Int))))), (4, cmpV), (10, .d (.s (.int .i64 ((q.1 : Int))))), (11, .d (.s (.int .i64 ((q.2.1 : Int)))))], tab none [(58, some (.box (fa N q.2.2)))]⟩)
    (fun q => 0 < q.1 ∧ 0 < q.2.1 ∧ q.1 ≤ m - a ∧ q.2.1 ≤ b - m ∧ Mv N a b x q.2.2 ∧ rot q.2.2 (m - q.1) m (m + q.2.1) = rot x a m b) (fun q => q.1 ≠ q.2.1) (fun q => q.1 + q.2.1) (m - a, b - m, x) rfl
    ⟨by show 0 < m - a; omega, by show 0 < b - m; omega, Nat.le_refl _, Nat.le_refl _, Mv.refl _ _ _ _, by show rot x (m - (m - a)) m (m + (b - m)) = _; rw [show m - (m - a) = a by omega, show m + (b - m) = b by omega]⟩
    (lt_loopFuel (by show m - a + (b - m) < 1000000; omega))
  obtain ⟨⟨i, j, y⟩, l, ⟨p1, p2, p3, p4, p5, p6⟩, hgo, rfl⟩ := hM (by
    rintro ⟨i, j, y⟩ ⟨p1, p2, p3, p4, p5, p6⟩ hgo
    simp only at p1 p2 p3 p4 p5 p6 hgo
    have g1 : ((i : Int) != (j : Int)) = true := by rw [bne_iff_ne]; omega
    have mi := wsub (a := m) (b := i) (by omega) (by omega)
    by_cases hij : j < i
    · have g2 : (j : Int) < (i : Int) := by omega
      have sw := swapRange_ev d N y (m - i) m j (by omega) (by omega) hN
      have ij := wsub (a := i) (b := j) (by omega) (by omega)
      refine ⟨(i - j, j, swr y (m - i) m j), ?_, ⟨by show 0 < i - j; omega, p2, by show i - j ≤ m - a; omega, p4, p5.trans (swr_mv y h3 (by omega) (by omega) j (by omega) (by omega)) (Nat.le_refl _) (Nat.le_refl _), (rot_gt (by omega) hij).trans p6⟩, by show i - j + j < i + j; omega⟩
      simp (decide := true) only [g1, g2, mi, sw, ij, Try.f38, rid, kl38_2, ↓sBp, sBq, List.all_cons, List.all_nil, List.map_cons, List.map_nil, D.shape, Sh.sub, Sh.size, List.getElem?_cons_zero, List.getElem?_cons_succ, Option.bind_some, Option.bind_none, Option.getD_some, Option.getD_none, V.keysIn, V.kill, V.has, decide_eq_true_eq, beq_iff_eq, bne_iff_ne, ne_eq, Bool.not_eq_true', Bool.and_true, Bool.and_self, Bool.true_and, if_true, if_false, reduceIte, Bool.false_eq_true, decide_true, decide_false, beq_self_eq_true, Bool.not_true, Bool.not_false, true_and, and_true, and_self, List.append_assoc, List.nil_append, List.cons_append, Int.toNat_natCast, ck, Int.cast_ofNat_Int, Int.reduceToNat, bne_self_eq_false, Bool.or_false, Bool.false_or, Bool.false_and, Bool.and_false, Bool.or_true, Bool.true_or]
    · have g2 : ¬ (j : Int) < (i : Int) := by omega
      have sw := swapRange_ev d N y (m - i) (m + j - i) i (by omega) (by omega) hN
      have ji := wsub (a := j) (b := i) (by omega) (by omega)
      have mj := wadd (a := m) (b := j) (by omega) (by omega)
      have mji := wsub (a := m + j) (b := i) (by omega) (by omega)
      refine ⟨(i, j - i, swr y (m - i) (m + j - i) i), ?_, ⟨p1, by show 0 < j - i; omega, p3, by show j - i ≤ b - m; omega, p5.trans (swr_mv y h3 (by omega) (by omega) i (by omega) (by omega)) (Nat.le_refl _) (Nat.le_refl _), (rot_lt (by omega) (by omega)).trans p6⟩, by show i + (j - i) < i + j; omega⟩
      simp (decide := true) only [g1, g2, mi, sw, ji, mj, mji, Try.f38, rid, kl38_2, ↓sBp, sBq, List.all_cons, List.all_nil, List.map_cons, List.map_nil, D.shape, Sh.sub, Sh.size, List.getElem?_cons_zero, List.getElem?_cons_succ, Option.bind_some, Option.bind_none, Option.getD_some, Option.getD_none, V.keysIn, V.kill, V.has, decide_eq_true_eq, beq_iff_eq, bne_iff_ne, ne_eq, Bool.not_eq_true', Bool.and_true, Bool.and_self, Bool.true_and, if_true, if_false, reduceIte, Bool.false_eq_true, decide_true, decide_false, beq_self_eq_true, Bool.not_true, Bool.not_false, true_and, and_true, and_self, List.append_assoc, List.nil_append, List.cons_append, Int.toNat_natCast, ck, Int.cast_ofNat_Int, Int.reduceToNat, bne_self_eq_false, Bool.or_false, Bool.false_or, Bool.false_and, Bool.and_false, Bool.or_true, Bool.true_or])
  simp only at p1 p2 p3 p4 p5 p6 hgo
  have hij : j = i := by omega
  subst hij
  have g1 : ((j : Int) != (j : Int)) = false := by simp
  have mi := wsub (a := m) (b := j) (by omega) (by omega)
  have sw := swapRange_ev d N y (m - j) m j (by omega) (by omega) hN
  refine ⟨swr y (m - j) m j, ?_, p5.trans (swr_mv y h3 (by omega) (by omega) j (by omega) (by omega)) (Nat.le_refl _) (Nat.le_refl _), (rot_eq (by omega)).trans p6⟩
  simp (decide := true) only [g1, mi, sw, Try.f38, rid, kl38_2, ↓sBp, sBq, List.all_cons, List.all_nil, List.map_cons, List.map_nil, D.shape, Sh.sub, Sh.size, List.getElem?_cons_zero, List.getElem?_cons_succ, Option.bind_some, Option.bind_none, Option.getD_some, Option.getD_none, V.keysIn, V.kill, V.has, decide_eq_true_eq, beq_iff_eq, bne_iff_ne, ne_eq, Bool.not_eq_true', Bool.and_true, Bool.and_self, Bool.true_and, if_true, if_false, reduceIte, Bool.false_eq_true, decide_true, decide_false, beq_self_eq_true, Bool.not_true, Bool.not_false, true_and, and_true, and_self, List.append_assoc, List.nil_append, List.cons_append, Int.toNat_natCast, ck, Int.cast_ofNat_Int, Int.reduceToNat, bne_self_eq_false, Bool.or_false, Bool.false_or, Bool.false_and, Bool.and_false, Bool.or_true, Bool.true_or]
end Go.Proofs.Ytfmbchnejelpkaa.Ev
