/- slices.symMerge, of numbers: two parts in order become one; every length. -/
import Derived.Test.YtfmbchnejelpkaaUe
namespace Go.Proofs.Ytfmbchnejelpkaa.Ev
open Go
attribute [local congr] ob_congr sq_congr cd_congr ite_congr1 iter_congr it1_congr jumps_congr
set_option maxRecDepth 100000
set_option linter.unusedSimpArgs false
set_option linter.unusedVariables false
theorem rot_mv {x y : Nat → Nat} {N s m e : Nat} (h : Mv N s e x y) (hy : y = rot x s m e) : Mv N s e x (rot x s m e) := hy ▸ h
theorem rot_nil {x : Nat → Nat} {s m e : Nat} (h : ¬ (s < m ∧ m < e)) (h1 : s ≤ m) (h2 : m ≤ e) : rot x s m e = x := by
  funext k
  unfold rot
  repeat' split
  all_goals first | rfl | (exfalso; omega) | (congr 1; omega)
/-- A step taken, or not. -/
def May (x y : Nat → Nat) (a b c : Int) (p : Prop) : Prop := (a < b ∧ b < c ∧ p) ∨ (a < b ∧ ¬ b < c ∧ x = y) ∨ (¬ a < b ∧ ¬ a < b ∧ x = y)
theorem may_of {x y : Nat → Nat} {a b c : Nat} {p : Prop} (h : a < b → b < c → p) (h' : ¬ (a < b ∧ b < c) → x = y) : May x y (a : Int) (b : Int) (c : Int) p := by
  by_cases h1 : a < b
  · by_cases h2 : b < c
    · exact .inl ⟨by omega, by omega, h h1 h2⟩
    · exact .inr (.inl ⟨by omega, by omega, h' (by omega)⟩)
  · exact .inr (.inr ⟨by omega, by omega, h' (by omega)⟩)
theorem rest (N : Nat) (hN : N ≤ 1000) (E : Nat) (x : Nat → Nat) (a m b mid s e : Nat)
    (ih : ∀ (x : Nat → Nat) (a m b : Nat), a < m → m < b → b ≤ N → b - a + 2 ≤ E + 3 → Srt x a m → Srt x m b → ∃ y, evF Try.prog env xf (E+3) 37 [.d (fa N x), .d (.s (.int .i64 ((a : Int)))), .d (.s (.int .i64 ((m : Int)))), .d (.s (.int .i64 ((b : Int)))), cmpV] = some (.d (fa N y)) ∧ Mv N a b x y ∧ Srt y a b)
    (hb : b ≤ N) (hD : b - a ≤ E + 2) (ham : a < m) (hmb : m < b) (hmid : mid = (a + b) / 2) (q1 : a ≤ s) (q2 : s ≤ m) (q3 : m ≤ e ∧ e ≤ b) (he : e + s = mid + m) (s1 : Srt x a m) (s2 : Srt x m b)
    (f1 : a < s → e < b → ord (x (s - 1)) (x e) ≤ 0) (f2 : s < m → m < e → ord (x (e - 1)) (x s) ≤ 0) :
    ∃ y1 z u, May x y1 (s : Int) (m : Int) (e : Int) (evF Try.prog env xf (E+3) 38 [.d (fa N x), .d (.s (.int .i64 ((s : Int)))), .d (.s (.int .i64 ((m : Int)))), .d (.s (.int .i64 ((e : Int)))), cmpV] = some (.d (fa N y1)))
      ∧ May y1 z (a : Int) (s : Int) (mid : Int) (evF Try.prog env xf (E+3) 37 [.d (fa N y1), .d (.s (.int .i64 ((a : Int)))), .d (.s (.int .i64 ((s : Int)))), .d (.s (.int .i64 ((mid : Int)))), cmpV] = some (.d (fa N z)))
      ∧ May z u (mid : Int) (e : Int) (b : Int) (evF Try.prog env xf (E+3) 37 [.d (fa N z), .d (.s (.int .i64 ((mid : Int)))), .d (.s (.int .i64 ((e : Int)))), .d (.s (.int .i64 ((b : Int)))), cmpV] = some (.d (fa N u)))
      ∧ Mv N a b x u ∧ Srt u a b := by
  obtain ⟨t1, t2, t3, t4, t5⟩ := rot_halves (mid := mid) s1 s2 q1 q2 q3.1 q3.2 (by omega) f1 f2
  have hr : Mv N s e x (rot x s m e) ∧ May x (rot x s m e) (s : Int) (m : Int) (e : Int) (evF Try.prog env xf (E+3) 38 [.d (fa N x), .d (.s (.int .i64 ((s : Int)))), .d (.s (.int .i64 ((m : Int)))), .d (.s (.int .i64 ((e : Int)))), cmpV] = some (.d (fa N (rot x s m e)))) := by
    by_cases h : s < m ∧ m < e
    · obtain ⟨y, r1, r2, r3⟩ := rotate_ev (E + 1) N x s m e h.1 h.2 (by omega) hN
      subst r3
      exact ⟨r2, may_of (fun _ _ => r1) (fun hn => absurd h hn)⟩
    · have := rot_nil (x := x) h q2 q3.1
      exact ⟨by rw [this]; exact Mv.refl _ _ _ _, may_of (fun h1 h2 => absurd ⟨h1, h2⟩ h) (fun _ => this.symm)⟩
  generalize rot x s m e = y1 at t1 t2 t3 t4 t5 hr
  obtain ⟨z, z1, z2, z3⟩ : ∃ z, May y1 z (a : Int) (s : Int) (mid : Int) (evF Try.prog env xf (E+3) 37 [.d (fa N y1), .d (.s (.int .i64 ((a : Int)))), .d (.s (.int .i64 ((s : Int)))), .d (.s (.int .i64 ((mid : Int)))), cmpV] = some (.d (fa N z))) ∧ Mv N a mid y1 z ∧ Srt z a mid := by
    by_cases h : a < s ∧ s < mid
    · obtain ⟨y, r1, r2, r3⟩ := ih y1 a s mid h.1 h.2 (by omega) (by omega) t1 t2
      exact ⟨y, may_of (fun _ _ => r1) (fun hn => absurd h hn), r2, r3⟩
    · refine ⟨y1, may_of (fun h1 h2 => absurd ⟨h1, h2⟩ h) (fun _ => rfl), Mv.refl _ _ _ _, ?_⟩
      by_cases h1 : a < s
      · rw [show mid = s by omega]; exact t1
      · rw [show a = s by omega]; exact t2
  have t3' : Srt z mid e := srt_congr (fun k h1 h2 => z2.out k (by omega)) t3
  have t4' : Srt z e b := srt_congr (fun k h1 h2 => z2.out k (by omega)) t4
  obtain ⟨u, u1, u2, u3⟩ : ∃ u, May z u (mid : Int) (e : Int) (b : Int) (evF Try.prog env xf (E+3) 37 [.d (fa N z), .d (.s (.int .i64 ((mid : Int)))), .d (.s (.int .i64 ((e : Int)))), .d (.s (.int .i64 ((b : Int)))), cmpV] = some (.d (fa N u))) ∧ Mv N mid b z u ∧ Srt u mid b := by
    by_cases h : mid < e ∧ e < b
    · obtain ⟨y, r1, r2, r3⟩ := ih z mid e b h.1 h.2 (by omega) (by omega) t3' t4'
      exact ⟨y, may_of (fun _ _ => r1) (fun hn => absurd h hn), r2, r3⟩
    · refine ⟨z, may_of (fun h1 h2 => absurd ⟨h1, h2⟩ h) (fun _ => rfl), Mv.refl _ _ _ _, ?_⟩
      by_cases h1 : mid < e
      · rw [show b = e by omega]; exact t3'
      · rw [show mid = e by omega]; exact t4'
  exact ⟨y1, z, u, hr.2, z1, u1, ((hr.1.wide q1 q3.2).trans z2 (Nat.le_refl _) (by omega)).trans u2 (by omega) (Nat.le_refl _), halves_join t5 z2 z3 u2 u3⟩
set_option maxHeartbeats 4000000 in
theorem sym_ev (N : Nat) (hN : N ≤ 1000) : ∀ (D : Nat) (x : Nat → Nat) (a m b : Nat), a < m → m < b → b ≤ N → b - a + 2 ≤ D → Srt x a m → Srt x m b →
    ∃ y, evF Try.prog env xf (D) 37 [.d (fa N x), .d (.s (.int .i64 ((a : Int)))), .d (.s (.int .i64 ((m : Int)))), .d (.s (.int .i64 ((b : Int)))), cmpV] = some (.d (fa N y)) ∧ Mv N a b x y ∧ Srt y a b := by
  intro D
  induction D with
  | zero => intro x a m b h1 h2 h3 h4; omega
  | succ D ih =>
  intro x a m b ham hmb hb hD s1 s2
  obtain ⟨E, rfl⟩ : ∃ E, D = E + 3 := ⟨D - 3, by omega⟩
  by_cases hm1 : m = a + 1
  · subst hm1
    exact sym1_ev E N x a b (by omega) hb hN s2
  by_cases hb1 : b = m + 1
  · subst hb1
    exact sym2_ev E N x a m (by omega) hb hN s1
  rw [evF_eqM Try.func37 (show Try.f37.body = some _ from rfl) rfl rfl rfl (by show 5 ≤ 220; decide) rfl rfl]
  have w1 := wsub (a := m) (b := a) (by omega) (by omega)
  have e1 : (((m - a : Nat) : Int) == 1) = false := by rw [beq_eq_false_iff_ne]; omega
  have w2 := wsub (a := b) (b := m) (by omega) (by omega)
  have e2 : (((b - m : Nat) : Int) == 1) = false := by rw [beq_eq_false_iff_ne]; omega
  have wab := wadd (a := a) (b := b) (by omega) (by omega)
  obtain ⟨u1, u2, u3⟩ := half a b (by omega)
  obtain ⟨mid, hmid⟩ : ∃ k, k = (a + b) / 2 := ⟨_, rfl⟩
  rw [← hmid] at u2 u3
  have wmm := wadd (a := mid) (b := m) (by omega) (by omega)
  have wp : IntKind.i64.wrap (((mid + m : Nat) : Int) - 1) = ((mid + m - 1 : Nat) : Int) := by rw [IntWalk.i64_in _ (by omega)]; omega
  have br : ∃ L R, a ≤ L ∧ L ≤ R ∧ R ≤ m ∧ R ≤ mid ∧ mid + m ≤ L + b ∧ (mid < m ∧ mid + m = L + b ∧ R = mid ∨ m ≤ mid ∧ L = a ∧ R = m) := by
    by_cases h : mid < m
    · exact ⟨mid + m - b, mid, by omega, by omega, by omega, by omega, by omega, .inl ⟨h, by omega, rfl⟩⟩
    · exact ⟨a, m, by omega, by omega, by omega, by omega, by omega, .inr ⟨by omega, rfl, rfl⟩⟩
  obtain ⟨L, R, b1, b2, b3, b4, b5, b6⟩ := br
  have hpos : (L = a ∨ b + L = mid + m) ∧ (R = m ∨ R = mid) := by omega
  rcases b6 with ⟨h1, h2, h3⟩ | ⟨h1, h2, h3⟩
  case' inl =>
    have g : (mid : Int) < (m : Int) := by omega
    have wL : IntKind.i64.wrap (((mid + m : Nat) : Int) - (b : Int)) = (L : Int) := by rw [IntWalk.i64_in _ (by omega)]; omega
    simp (decide := true) only [w1, e1, w2, e2, wab, u1, u2, u3, wmm, g, wL, wp, Try.f37, rid, kl37_3, kl37_9, kl37_15, kl37_21, kl37_33, dp37_5, dp37_11, dp37_17, dp37_23, dp37_35, ↓sBp, sBq, List.all_cons, List.all_nil, List.map_cons, List.map_nil, D.shape, Sh.sub, Sh.size, List.getElem?_cons_zero, List.getElem?_cons_succ, Option.bind_some, Option.bind_none, Option.getD_some, Option.getD_none, V.keysIn, V.kill, V.has, decide_eq_true_eq, beq_iff_eq, bne_iff_ne, ne_eq, Bool.not_eq_true', Bool.and_true, Bool.and_self, Bool.true_and, if_true, if_false, reduceIte, Bool.false_eq_true, decide_true, decide_false, beq_self_eq_true, Bool.not_true, Bool.not_false, true_and, and_true, and_self, List.append_assoc, List.nil_append, List.cons_append, Int.toNat_natCast, ck, Int.cast_ofNat_Int, Int.reduceToNat, bne_self_eq_false, Bool.or_false, Bool.false_or, Bool.false_and, Bool.and_false, Bool.or_true, Bool.true_or]
  case' inr =>
    have g : ¬ (mid : Int) < (m : Int) := by omega
    simp (decide := true) only [w1, e1, w2, e2, wab, u1, u2, u3, wmm, g, wp, Try.f37, rid, kl37_3, kl37_9, kl37_15, kl37_21, kl37_33, dp37_5, dp37_11, dp37_17, dp37_23, dp37_35, ↓sBp, sBq, List.all_cons, List.all_nil, List.map_cons, List.map_nil, D.shape, Sh.sub, Sh.size, List.getElem?_cons_zero, List.getElem?_cons_succ, Option.bind_some, Option.bind_none, Option.getD_some, Option.getD_none, V.keysIn, V.kill, V.has, decide_eq_true_eq, beq_iff_eq, bne_iff_ne, ne_eq, Bool.not_eq_true', Bool.and_true, Bool.and_self, Bool.true_and, if_true, if_false, reduceIte, Bool.false_eq_true, decide_true, decide_false, beq_self_eq_true, Bool.not_true, Bool.not_false, true_and, and_true, and_self, List.append_assoc, List.nil_append, List.cons_append, Int.toNat_natCast, ck, Int.cast_ofNat_Int, Int.reduceToNat, bne_self_eq_false, Bool.or_false, Bool.false_or, Bool.false_and, Bool.and_false, Bool.or_true, Bool.true_or]
  all_goals
    generalize hI : iter _ _ _ = r
    have hM := iter_meas hI (fun q : Nat × Nat => ⟨tab .junk [(0, .ms 220 N cF), (1, .d (.s (.int .i64 ((a : Int))))), (2, .d (.s (.int .i64 ((m : Int))))), (3, .d (.s (.int .i64 ((b : Int))))), (4, cmpV), (18, .d (.s (.int .i64 ((mid : Int))))), (19, .d (.s (.int .i64 (((mid + m : Nat) : Int))))), (20, .d (.s (.int .i64 ((q.1 : Int))))), (21, .d (.s (.int .i64 ((q.2 : Int))))), (22, .d (.s (.int .i64 (((mid + m - 1 : Nat) : Int)))))], tab none [(220, some (.box (fa N x)))]⟩)
      (fun q => L ≤ q.1 ∧ q.1 ≤ q.2 ∧ q.2 ≤ R ∧ (q.1 = L ∨ ¬ ord (x (mid + m - 1 - (q.1 - 1))) (x (q.1 - 1)) < 0) ∧ (q.2 = R ∨ ord (x (mid + m - 1 - q.2)) (x q.2) < 0)) (fun q => q.1 < q.2) (fun q => q.2 - q.1) (L, R)
      (by first | (cases h3; rfl) | (cases h3; cases h2; rfl))
      ⟨Nat.le_refl _, b2, Nat.le_refl _, .inl rfl, .inl rfl⟩ (lt_loopFuel (by show R - L < 1000000; omega))
    obtain ⟨⟨s, s'⟩, l, ⟨p1, p2, p3, p4, p5⟩, hgo, rfl⟩ := hM (by
      rintro ⟨i, j⟩ ⟨p1, p2, p3, p4, p5⟩ hgo
      simp only at p1 p2 p3 p4 p5 hgo
      have g1 : (i : Int) < (j : Int) := by omega
      have wa := wadd (a := i) (b := j) (by omega) (by omega)
      obtain ⟨u1, u2, u3⟩ := half i j (by omega)
      have lh : (((i + j) / 2 : Nat) : Int) < (N : Int) := by omega
      have lm : ((mid + m - 1 - (i + j) / 2 : Nat) : Int) < (N : Int) := by omega
      have nh := i0 ((i + j) / 2)
      have nm := i0 (mid + m - 1 - (i + j) / 2)
      have ws := wsub (a := mid + m - 1) (b := (i + j) / 2) (by omega) (by omega)
      have wh := wrap_succ ((i + j) / 2) (by omega)
      by_cases hc : ord (x (mid + m - 1 - (i + j) / 2)) (x ((i + j) / 2)) < 0
      · have c : decide (ord (x (mid + m - 1 - (i + j) / 2)) (x ((i + j) / 2)) < 0) = true := by rw [decide_eq_true_iff]; exact hc
        refine ⟨(i, (i + j) / 2), ?_, ⟨p1, by show i ≤ (i + j) / 2; omega, by show (i + j) / 2 ≤ R; omega, p4, .inr hc⟩, by show (i + j) / 2 - i < j - i; omega⟩
        simp (decide := true) only [g1, wa, u1, u2, u3, lh, lm, nh, nm, ws, ordc_ev, c, Try.f37, rid, kl37_3, kl37_9, kl37_15, kl37_21, kl37_33, dp37_5, dp37_11, dp37_17, dp37_23, dp37_35, ↓sBp, sBq, List.all_cons, List.all_nil, List.map_cons, List.map_nil, D.shape, Sh.sub, Sh.size, List.getElem?_cons_zero, List.getElem?_cons_succ, Option.bind_some, Option.bind_none, Option.getD_some, Option.getD_none, V.keysIn, V.kill, V.has, decide_eq_true_eq, beq_iff_eq, bne_iff_ne, ne_eq, Bool.not_eq_true', Bool.and_true, Bool.and_self, Bool.true_and, if_true, if_false, reduceIte, Bool.false_eq_true, decide_true, decide_false, beq_self_eq_true, Bool.not_true, Bool.not_false, true_and, and_true, and_self, List.append_assoc, List.nil_append, List.cons_append, Int.toNat_natCast, ck, Int.cast_ofNat_Int, Int.reduceToNat, bne_self_eq_false, Bool.or_false, Bool.false_or, Bool.false_and, Bool.and_false, Bool.or_true, Bool.true_or]
      · have c : decide (ord (x (mid + m - 1 - (i + j) / 2)) (x ((i + j) / 2)) < 0) = false := by rw [decide_eq_false_iff_not]; exact hc
        refine ⟨((i + j) / 2 + 1, j), ?_, ⟨by show L ≤ (i + j) / 2 + 1; omega, by show (i + j) / 2 + 1 ≤ j; omega, p3, .inr hc, p5⟩, by show j - ((i + j) / 2 + 1) < j - i; omega⟩
        simp (decide := true) only [g1, wa, u1, u2, u3, lh, lm, nh, nm, ws, ordc_ev, c, wh, Try.f37, rid, kl37_3, kl37_9, kl37_15, kl37_21, kl37_33, dp37_5, dp37_11, dp37_17, dp37_23, dp37_35, ↓sBp, sBq, List.all_cons, List.all_nil, List.map_cons, List.map_nil, D.shape, Sh.sub, Sh.size, List.getElem?_cons_zero, List.getElem?_cons_succ, Option.bind_some, Option.bind_none, Option.getD_some, Option.getD_none, V.keysIn, V.kill, V.has, decide_eq_true_eq, beq_iff_eq, bne_iff_ne, ne_eq, Bool.not_eq_true', Bool.and_true, Bool.and_self, Bool.true_and, if_true, if_false, reduceIte, Bool.false_eq_true, decide_true, decide_false, beq_self_eq_true, Bool.not_true, Bool.not_false, true_and, and_true, and_self, List.append_assoc, List.nil_append, List.cons_append, Int.toNat_natCast, ck, Int.cast_ofNat_Int, Int.reduceToNat, bne_self_eq_false, Bool.or_false, Bool.false_or, Bool.false_and, Bool.and_false, Bool.or_true, Bool.true_or])
    simp only at p1 p2 p3 p4 p5 hgo
    have hs : s' = s := by omega
    subst hs
    obtain ⟨e, he⟩ : ∃ e, e + s' = mid + m := ⟨mid + m - s', by omega⟩
    have we : IntKind.i64.wrap (((mid + m : Nat) : Int) - (s' : Int)) = (e : Int) := by rw [IntWalk.i64_in _ (by omega)]; omega
    obtain ⟨y1, z, u, k1, k2, k3, mv, srt⟩ := rest N hN E x a m b mid s' e ih hb (by omega) ham hmb hmid (by omega) (by omega) (by omega) (by omega) s1 s2
      (fun q1 q2 => by
        rcases p4 with p4 | p4
        · omega
        · rw [show mid + m - 1 - (s' - 1) = e by omega] at p4
          have := ord_swap (x e) (x (s' - 1)); omega)
      (fun q1 q2 => by
        rcases p5 with p5 | p5
        · omega
        · rw [show mid + m - 1 - s' = e - 1 by omega] at p5; omega)
    have g1 : ¬ (s' : Int) < (s' : Int) := by omega
    refine ⟨u, ?_, mv, srt⟩
    rcases k1 with ⟨c1, c2, r1⟩ | ⟨c1, c2, r1⟩ | ⟨c1, c2, r1⟩ <;> rcases k2 with ⟨c3, c4, r2⟩ | ⟨c3, c4, r2⟩ | ⟨c3, c4, r2⟩ <;> rcases k3 with ⟨c5, c6, r3⟩ | ⟨c5, c6, r3⟩ | ⟨c5, c6, r3⟩ <;>
      simp (decide := true) only [g1, we, c1, c2, c3, c4, c5, c6, r1, r2, r3, Try.f37, rid, kl37_3, kl37_9, kl37_15, kl37_21, kl37_33, dp37_5, dp37_11, dp37_17, dp37_23, dp37_35, ↓sBp, sBq, List.all_cons, List.all_nil, List.map_cons, List.map_nil, D.shape, Sh.sub, Sh.size, List.getElem?_cons_zero, List.getElem?_cons_succ, Option.bind_some, Option.bind_none, Option.getD_some, Option.getD_none, V.keysIn, V.kill, V.has, decide_eq_true_eq, beq_iff_eq, bne_iff_ne, ne_eq, Bool.not_eq_true', Bool.and_true, Bool.and_self, Bool.true_and, if_true, if_false, reduceIte, Bool.false_eq_true, decide_true, decide_false, beq_self_eq_true, Bool.not_true, Bool.not_false, true_and, and_true, and_self, List.append_assoc, List.nil_append, List.cons_append, Int.toNat_natCast, ck, Int.cast_ofNat_Int, Int.reduceToNat, bne_self_eq_false, Bool.or_false, Bool.false_or, Bool.false_and, Bool.and_false, Bool.or_true, Bool.true_or]
end Go.Proofs.Ytfmbchnejelpkaa.Ev
