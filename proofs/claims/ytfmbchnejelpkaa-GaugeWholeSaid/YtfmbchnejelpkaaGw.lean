/- GaugeWhole: what is smoothed of whole numbers is between both, and fine; with no part it stays, with all of it it is the sample: the statement. -/
import Derived.Test.YtfmbchnejelpkaaGa
import Derived.Test.YtfmbchnejelpkaaFn
import Derived.Test.YtfmbchnejelpkaaEvBits
import Derived.Test.YtfmbchnejelpkaaRows
import Derived.Test.YtfmbchnejelpkaaEvF
import Derived.ProofKit
import Derived.OpenShut
namespace Go.Proofs.Ytfmbchnejelpkaa.Ev
open Go
attribute [local congr] ob_congr sq_congr cd_congr ite_congr1 iter_congr it1_congr jumps_congr
set_option maxRecDepth 100000
set_option linter.unusedSimpArgs false
set_option linter.unusedVariables false
open Ieee
abbrev c1F : Nat := 4607182418800017408
abbrev c8F : Nat := 4620693217682128896
abbrev n64 (n : Int) : Nat := FloatKind.f64.nearest n
theorem fsome {x : Option Nat} {r : Nat} (h : x = some r) : ob x (fun r => some (V.d (D.s (.float .f64 r)))) = some (.d (dF r)) := by rw [h]; rfl
theorem smooth_ev (k a b : Nat) (e : Int) {pe re ke ce xe : Nat} (h0 : 0 ≤ e) (h8 : e ≤ 8) (fa : fine a = true) (fb : fine b = true) (hp : double.div (n64 e) c8F = some pe) (hr : double.sub c1F pe = some re)
    (hk : double.mul a re = some ke) (hc : double.mul b pe = some ce) (hs : double.add ke ce = some xe) :
    evF Try.prog env xf (k+4) 13 [.d (dF a), .d (dF b), .d (.s (.int .i64 (e)))] = some (.tcons (.d (dF xe)) (.tcons (.d (.s (.int .i64 (0)))) .tnil)) := by
  rw [evF_eq Try.func13 (show Try.f13.body = some _ from rfl) rfl rfl (by show 3 ≤ 37; decide)]
  have q1 : decide (e < 0) = false := by rw [decide_eq_false_iff_not]; omega
  have q2 : decide (8 < e) = false := by rw [decide_eq_false_iff_not]; omega
  have p1 := fsome hp
  have p2 := fsome hr
  have p3 := fsome hk
  have p4 := fsome hc
  have p5 := fsome hs
  simp (decide := true) only [fine_ev, fa, fb, q1, q2, fAdd, fSub, fMul, fDiv, p1, p2, p3, p4, p5, Try.f13, rid, ↓sBp, sBq, List.all_cons, List.all_nil, List.map_cons, List.map_nil, D.shape, Sh.sub, Sh.size, List.getElem?_cons_zero, List.getElem?_cons_succ, Option.bind_some, Option.bind_none, Option.getD_some, Option.getD_none, V.keysIn, V.kill, V.has, decide_eq_true_eq, beq_iff_eq, bne_iff_ne, ne_eq, Bool.not_eq_true', Bool.and_true, Bool.and_self, Bool.true_and, if_true, if_false, reduceIte, Bool.false_eq_true, decide_true, decide_false, beq_self_eq_true, Bool.not_true, Bool.not_false, true_and, and_true, and_self, List.append_assoc, List.nil_append, List.cons_append, Int.toNat_natCast, ck, Int.cast_ofNat_Int, Int.reduceToNat, bne_self_eq_false, Bool.or_false, Bool.false_or, Bool.false_and, Bool.and_false, Bool.or_true, Bool.true_or]
theorem gaugeWhole_ev (o s n : Int) (e : Nat) (hn : IntKind.i64.wrap ((IntKind.u64.wrap n).tmod 9) = (e : Int)) (he : e ≤ 8) (x mn mx y : Nat) (N : Int)
    (hsm : evF Try.prog env xf (29) 13 [.d (dF (n64 o)), .d (dF (n64 s)), .d (.s (.int .i64 ((e : Int))))] = some (.tcons (.d (dF x)) (.tcons (.d (.s (.int .i64 (0)))) .tnil))) (fx : fine x = true)
    (hmn : fMin .f64 (n64 o) (n64 s) = some mn) (l1 : flt x mn = false) (hmx : fMax .f64 (n64 o) (n64 s) = some mx) (l2 : flt mx x = false)
    (e0 : e = 0 → feq x (n64 o) = true) (e8 : e = 8 → feq x (n64 s) = true) (hy : double.mul c8F x = some y)
    (hN : IntKind.i64.wrap (IntKind.i64.wrap (IntKind.i64.wrap (8 - (e : Int)) * IntKind.i64.wrap o) + IntKind.i64.wrap ((e : Int) * IntKind.i64.wrap s)) = N) (hq : feq y (n64 N) = true) :
    evF Try.prog env xf (30) 5 [.d (.s (.int .u16 o)), .d (.s (.int .u16 s)), .d (.s (.int .i64 (n)))] = some (.d (.s (.bool (true)))) := by
  rw [evF_eq Try.func5 (show Try.f5.body = some _ from rfl) rfl rfl (by show 3 ≤ 82; decide)]
  have p1 := fsome hmn
  have p2 := fsome hmx
  have p3 := fsome hy
  rcases Bool.eq_false_or_eq_true ((e : Int) == 0) with h | h
  · have h0 := e0 (by have := beq_iff_eq.1 h; omega)
    have h8 : ((e : Int) == 8) = false := by rw [beq_eq_false_iff_ne]; have := beq_iff_eq.1 h; omega
    simp (decide := true) only [hn, hsm, fine_ev, awake_ev, fMul, fx, l1, l2, p1, p2, p3, h, h0, h8, hN, hq, Try.f5, rid, ↓sBp, sBq, List.all_cons, List.all_nil, List.map_cons, List.map_nil, D.shape, Sh.sub, Sh.size, List.getElem?_cons_zero, List.getElem?_cons_succ, Option.bind_some, Option.bind_none, Option.getD_some, Option.getD_none, V.keysIn, V.kill, V.has, decide_eq_true_eq, beq_iff_eq, bne_iff_ne, ne_eq, Bool.not_eq_true', Bool.and_true, Bool.and_self, Bool.true_and, if_true, if_false, reduceIte, Bool.false_eq_true, decide_true, decide_false, beq_self_eq_true, Bool.not_true, Bool.not_false, true_and, and_true, and_self, List.append_assoc, List.nil_append, List.cons_append, Int.toNat_natCast, ck, Int.cast_ofNat_Int, Int.reduceToNat, bne_self_eq_false, Bool.or_false, Bool.false_or, Bool.false_and, Bool.and_false, Bool.or_true, Bool.true_or]
  · rcases Bool.eq_false_or_eq_true ((e : Int) == 8) with h8 | h8
    · have h9 := e8 (by have := beq_iff_eq.1 h8; omega)
      simp (decide := true) only [hn, hsm, fine_ev, awake_ev, fMul, fx, l1, l2, p1, p2, p3, h, h8, h9, hN, hq, Try.f5, rid, ↓sBp, sBq, List.all_cons, List.all_nil, List.map_cons, List.map_nil, D.shape, Sh.sub, Sh.size, List.getElem?_cons_zero, List.getElem?_cons_succ, Option.bind_some, Option.bind_none, Option.getD_some, Option.getD_none, V.keysIn, V.kill, V.has, decide_eq_true_eq, beq_iff_eq, bne_iff_ne, ne_eq, Bool.not_eq_true', Bool.and_true, Bool.and_self, Bool.true_and, if_true, if_false, reduceIte, Bool.false_eq_true, decide_true, decide_false, beq_self_eq_true, Bool.not_true, Bool.not_false, true_and, and_true, and_self, List.append_assoc, List.nil_append, List.cons_append, Int.toNat_natCast, ck, Int.cast_ofNat_Int, Int.reduceToNat, bne_self_eq_false, Bool.or_false, Bool.false_or, Bool.false_and, Bool.and_false, Bool.or_true, Bool.true_or]
    · simp (decide := true) only [hn, hsm, fine_ev, awake_ev, fMul, fx, l1, l2, p1, p2, p3, h, h8, hN, hq, Try.f5, rid, ↓sBp, sBq, List.all_cons, List.all_nil, List.map_cons, List.map_nil, D.shape, Sh.sub, Sh.size, List.getElem?_cons_zero, List.getElem?_cons_succ, Option.bind_some, Option.bind_none, Option.getD_some, Option.getD_none, V.keysIn, V.kill, V.has, decide_eq_true_eq, beq_iff_eq, bne_iff_ne, ne_eq, Bool.not_eq_true', Bool.and_true, Bool.and_self, Bool.true_and, if_true, if_false, reduceIte, Bool.false_eq_true, decide_true, decide_false, beq_self_eq_true, Bool.not_true, Bool.not_false, true_and, and_true, and_self, List.append_assoc, List.nil_append, List.cons_append, Int.toNat_natCast, ck, Int.cast_ofNat_Int, Int.reduceToNat, bne_self_eq_false, Bool.or_false, Bool.false_or, Bool.false_and, Bool.and_false, Bool.or_true, Bool.true_or]

theorem NN.zero (t : Nat) : NN 0 (0 * 2 ^ t) := by rw [Nat.zero_mul]; exact ⟨by decide, 0, -1074, by decide +kernel, Nat.zero_mul _⟩
theorem parts_ok {t : Nat} (ht : t = 1071) (e : Nat) (he : e ≤ 8) : ∃ pe re, double.div (n64 (e : Int)) c8F = some pe ∧ double.sub c1F pe = some re ∧ NN pe (e * 2 ^ t) ∧ NN re ((8 - e) * 2 ^ t) := by
  have : e = 0 ∨ e = 1 ∨ e = 2 ∨ e = 3 ∨ e = 4 ∨ e = 5 ∨ e = 6 ∨ e = 7 ∨ e = 8 := by omega
  rcases this with rfl | rfl | rfl | rfl | rfl | rfl | rfl | rfl | rfl
  · exact ⟨0, 4607182418800017408, by decide +kernel, by decide +kernel, NN.zero _, NN.mk' (a := 49) (k := 1022) (i := -52) (by decide) (by decide +kernel) (by decide) (by omega)⟩
  · exact ⟨4593671619917905920, 4606056518893174784, by decide +kernel, by decide +kernel, NN.mk' (a := 52) (k := 1019) (i := -55) (by decide) (by decide +kernel) (by decide) (by omega), NN.mk' (a := 50) (k := 1021) (i := -53) (by decide) (by decide +kernel) (by decide) (by omega)⟩
  · exact ⟨4598175219545276416, 4604930618986332160, by decide +kernel, by decide +kernel, NN.mk' (a := 51) (k := 1020) (i := -54) (by decide) (by decide +kernel) (by decide) (by omega), NN.mk' (a := 50) (k := 1021) (i := -53) (by decide) (by decide +kernel) (by decide) (by omega)⟩
  · exact ⟨4600427019358961664, 4603804719079489536, by decide +kernel, by decide +kernel, NN.mk' (a := 51) (k := 1020) (i := -54) (by decide) (by decide +kernel) (by decide) (by omega), NN.mk' (a := 50) (k := 1021) (i := -53) (by decide) (by decide +kernel) (by decide) (by omega)⟩
  · exact ⟨4602678819172646912, 4602678819172646912, by decide +kernel, by decide +kernel, NN.mk' (a := 50) (k := 1021) (i := -53) (by decide) (by decide +kernel) (by decide) (by omega), NN.mk' (a := 50) (k := 1021) (i := -53) (by decide) (by decide +kernel) (by decide) (by omega)⟩
  · exact ⟨4603804719079489536, 4600427019358961664, by decide +kernel, by decide +kernel, NN.mk' (a := 50) (k := 1021) (i := -53) (by decide) (by decide +kernel) (by decide) (by omega), NN.mk' (a := 51) (k := 1020) (i := -54) (by decide) (by decide +kernel) (by decide) (by omega)⟩
  · exact ⟨4604930618986332160, 4598175219545276416, by decide +kernel, by decide +kernel, NN.mk' (a := 50) (k := 1021) (i := -53) (by decide) (by decide +kernel) (by decide) (by omega), NN.mk' (a := 51) (k := 1020) (i := -54) (by decide) (by decide +kernel) (by decide) (by omega)⟩
  · exact ⟨4606056518893174784, 4593671619917905920, by decide +kernel, by decide +kernel, NN.mk' (a := 50) (k := 1021) (i := -53) (by decide) (by decide +kernel) (by decide) (by omega), NN.mk' (a := 52) (k := 1019) (i := -55) (by decide) (by decide +kernel) (by decide) (by omega)⟩
  · exact ⟨4607182418800017408, 0, by decide +kernel, by decide +kernel, NN.mk' (a := 49) (k := 1022) (i := -52) (by decide) (by decide +kernel) (by decide) (by omega), NN.zero _⟩
theorem nn_eight : NN c8F (8 * U) := NN.mkU (a := 49) (k := 1025) (i := -49) (by decide) (by decide +kernel) (by decide) (by decide)
theorem nn_bill : NN 4741671816366391296 (1000000000 * U) := NN.mkU (a := 23) (k := 1051) (i := -23) (by decide) (by decide +kernel) (by decide) (by decide)
theorem nn_nil : NN 0 0 := ⟨by decide, 0, -1074, by decide +kernel, Nat.zero_mul _⟩
theorem NN.sgn {b v : Nat} (h : NN b v) : sgn b = false := by
  have h1 := h.1
  unfold Ev.sgn
  rw [IntWalk.i64_in _ (by omega), decide_eq_false_iff_not]; omega
theorem NN.lt {a b x y : Nat} (ha : NN a x) (hb : NN b y) : flt a b = decide (x < y) := by
  rw [flt_val, ha.fval, hb.fval]; exact decide_eq_decide.2 (by omega)
theorem NN.le {a b x y : Nat} (ha : NN a x) (hb : NN b y) : fle a b = decide (x ≤ y) := by
  rw [fle_val, ha.fval, hb.fval]; exact decide_eq_decide.2 (by omega)
theorem NN.eq {a b x y : Nat} (ha : NN a x) (hb : NN b y) : feq a b = decide (x = y) := by
  rw [feq_val, ha.fval, hb.fval]; exact decide_eq_decide.2 (by omega)
theorem NN.fine {b v : Nat} (h : NN b v) (hv : v ≤ 1000000000 * U) : fine b = true := by
  unfold Ev.fine
  rw [NN.le nn_nil h, NN.le h nn_bill, h.sgn]
  simp [hv]
theorem cmpI_lt {x y : Int} (h : x < y) : compare x y = .lt := by simp only [compare, compareOfLessAndEq]; rw [if_pos h]
theorem cmpI_eq {x y : Int} (h : x = y) : compare x y = .eq := by simp only [compare, compareOfLessAndEq]; rw [if_neg (by omega), if_pos h]
theorem cmpI_gt {x y : Int} (h : y < x) : compare x y = .gt := by simp only [compare, compareOfLessAndEq]; rw [if_neg (by omega), if_neg (by omega)]
theorem NN.min {a b x y : Nat} (ha : NN a x) (hb : NN b y) : ∃ r, fMin .f64 a b = some r ∧ NN r (Nat.min x y) := by
  unfold fMin
  show ∃ r, (match double.order a b with | none => none | some .lt => some a | some .gt => some b | some .eq => some (if (double.read a).neg then a else b)) = some r ∧ _
  rw [order_val, ha.fval, hb.fval]
  show ∃ r, (match some (compare (x : Int) (y : Int)) with | none => none | some .lt => some a | some .gt => some b | some .eq => some (if (double.read a).neg then a else b)) = some r ∧ _
  rcases Nat.lt_trichotomy x y with h | h | h
  · rw [show compare (x : Int) (y : Int) = .lt from cmpI_lt (by omega)]
    exact ⟨a, rfl, by rw [show Nat.min x y = x from Nat.min_eq_left (by omega)]; exact ha⟩
  · rw [show compare (x : Int) (y : Int) = .eq from cmpI_eq (by omega)]
    subst h
    rw [show Nat.min x x = x from Nat.min_self x]
    refine ⟨_, rfl, ?_⟩
    split
    · exact ha
    · exact hb
  · rw [show compare (x : Int) (y : Int) = .gt from cmpI_gt (by omega)]
    exact ⟨b, rfl, by rw [show Nat.min x y = y from Nat.min_eq_right (by omega)]; exact hb⟩
theorem NN.max {a b x y : Nat} (ha : NN a x) (hb : NN b y) : ∃ r, fMax .f64 a b = some r ∧ NN r (Nat.max x y) := by
  unfold fMax
  show ∃ r, (match double.order a b with | none => none | some .lt => some b | some .gt => some a | some .eq => some (if (double.read a).neg then b else a)) = some r ∧ _
  rw [order_val, ha.fval, hb.fval]
  show ∃ r, (match some (compare (x : Int) (y : Int)) with | none => none | some .lt => some b | some .gt => some a | some .eq => some (if (double.read a).neg then b else a)) = some r ∧ _
  rcases Nat.lt_trichotomy x y with h | h | h
  · rw [show compare (x : Int) (y : Int) = .lt from cmpI_lt (by omega)]
    exact ⟨b, rfl, by rw [show Nat.max x y = y from Nat.max_eq_right (by omega)]; exact hb⟩
  · rw [show compare (x : Int) (y : Int) = .eq from cmpI_eq (by omega)]
    subst h
    rw [show Nat.max x x = x from Nat.max_self x]
    refine ⟨_, rfl, ?_⟩
    split
    · exact hb
    · exact ha
  · rw [show compare (x : Int) (y : Int) = .gt from cmpI_gt (by omega)]
    exact ⟨a, rfl, by rw [show Nat.max x y = x from Nat.max_eq_left (by omega)]; exact ha⟩
theorem rem9 {j : Int} (hj : inI j) : ∃ m : Nat, m ≤ 8 ∧ IntKind.i64.wrap ((IntKind.u64.wrap j).tmod 9) = (m : Int) := by
  have e : IntKind.u64.wrap j = j % 18446744073709551616 := rfl
  rw [e]
  have h0 : 0 ≤ j % 18446744073709551616 := by omega
  rw [Int.tmod_eq_emod_of_nonneg h0]
  refine ⟨((j % 18446744073709551616) % 9).toNat, by omega, ?_⟩
  rw [IntWalk.i64_in _ (by omega)]; omega
/-- A word's number is that of eighths, where both are kept. -/
theorem U_eighth {t : Nat} (ht : t = 1071) : U = 8 * 2 ^ t := by rw [U_split (a := 3) (b := t) (by omega)]
theorem whole_ok {o s e t : Nat} (ho : o ≤ 65535) (hs : s ≤ 65535) (he : e ≤ 8) (ht : t = 1071) (hparts : ∃ pe re, double.div (n64 (e : Int)) c8F = some pe ∧ double.sub c1F pe = some re ∧ NN pe (e * 2 ^ t) ∧ NN re ((8 - e) * 2 ^ t)) :
    ∃ pe re ke ce xe ye, double.div (n64 (e : Int)) c8F = some pe ∧ double.sub c1F pe = some re ∧ double.mul (n64 (o : Int)) re = some ke ∧ double.mul (n64 (s : Int)) pe = some ce ∧ double.add ke ce = some xe ∧
      double.mul c8F xe = some ye ∧ NN xe (((8 - e) * o + e * s) * 2 ^ t) ∧ NN ye (((8 - e) * o + e * s) * U) := by
  obtain ⟨pe, re, h1, h2, h3, h4⟩ := hparts
  have m1 : (8 - e) * o ≤ 8 * 65535 := Nat.mul_le_mul (by omega) ho
  have m2 : e * s ≤ 8 * 65535 := Nat.mul_le_mul he hs
  obtain ⟨ke, k1, k2⟩ := mul_exact (q := (8 - e) * o) (t := t) (int_exact (n := o) (by omega)) h4 (by omega) (by omega) (by
    rw [Nat.mul_comm (o * U), Nat.mul_assoc ((8 - e)), Nat.mul_left_comm (2 ^ t), ← Nat.mul_assoc (8 - e), Nat.mul_assoc ((8 - e) * o)])
  obtain ⟨ce, k3, k4⟩ := mul_exact (q := e * s) (t := t) (int_exact (n := s) (by omega)) h3 (by omega) (by omega) (by
    rw [Nat.mul_comm (s * U), Nat.mul_assoc e, Nat.mul_left_comm (2 ^ t), ← Nat.mul_assoc e, Nat.mul_assoc (e * s)])
  obtain ⟨xe, k5, k6⟩ := add_exact (q := (8 - e) * o + e * s) (t := t) k2 k4 (by omega) (by omega) (by rw [Nat.add_mul])
  obtain ⟨ye, k7, k8⟩ := mul_exact (q := (8 - e) * o + e * s) (t := t + 3) nn_eight k6 (by omega) (by omega) (by
    generalize (8 - e) * o + e * s = N
    rw [Nat.pow_add, show (2 : Nat) ^ 3 = 8 from rfl, Nat.mul_comm (8 * U), Nat.mul_assoc N, Nat.mul_assoc N, Nat.mul_assoc (2 ^ t)])
  refine ⟨pe, re, ke, ce, xe, ye, h1, h2, k1, k3, k5, k7, k6, ?_⟩
  rw [U_eq (k := t + 3) (by omega)]; exact k8
theorem gaugeWhole_data (x0 : D) (w0 : x0.WF) (s0 : x0.shape = .cell (.int .u16)) (f0 : x0.fits) (x1 : D) (w1 : x1.WF) (s1 : x1.shape = .cell (.int .u16)) (f1 : x1.fits) (x2 : D) (w2 : x2.WF) (s2 : x2.shape = cI) (f2 : x2.fits) :
    evF Try.prog env xf (30) 5 [.d x0, .d x1, .d x2] = some (.d (.s (.bool (true)))) := by
  have e0 := of_cell s0
  have e1 := of_cell s1
  have e2 := of_cell s2
  rw [e0] at f0
  rw [e1] at f1
  rw [e2] at f2
  rw [e0, e1, e2]
  obtain ⟨a0, a1⟩ := bounds_u16 f0
  obtain ⟨b0, b1⟩ := bounds_u16 f1
  obtain ⟨o, ho⟩ : ∃ o : Nat, intOf x0 = o := ⟨(intOf x0).toNat, by omega⟩
  obtain ⟨s, hs⟩ : ∃ s : Nat, intOf x1 = s := ⟨(intOf x1).toNat, by omega⟩
  rw [ho] at a1 ⊢
  rw [hs] at b1 ⊢
  obtain ⟨e, he, hn⟩ := rem9 (inI_of f2)
  obtain ⟨pe, re, ke, ce, xe, ye, h1, h2, h3, h4, h5, h6, nx, ny⟩ := whole_ok (o := o) (s := s) (t := 1071) (by omega) (by omega) he rfl (parts_ok rfl e he)
  have no := int_exact (n := o) (by omega)
  have ns := int_exact (n := s) (by omega)
  have m1 : (8 - e) * o ≤ 8 * 65535 := Nat.mul_le_mul (by omega) (by omega)
  have m2 : e * s ≤ 8 * 65535 := Nat.mul_le_mul he (by omega)
  have nN := int_exact (n := (8 - e) * o + e * s) (by omega)
  obtain ⟨mn, g1, g2⟩ := no.min ns
  obtain ⟨mx, g3, g4⟩ := no.max ns
  have hU := U_eighth (t := 1071) rfl
  have hup := U_pos
  have fo : fine (n64 (o : Int)) = true := no.fine (Nat.mul_le_mul_right _ (by omega))
  have fs : fine (n64 (s : Int)) = true := ns.fine (Nat.mul_le_mul_right _ (by omega))
  have w8 : IntKind.i64.wrap (8 - (e : Int)) = ((8 - e : Nat) : Int) := by rw [IntWalk.i64_in _ (by omega)]; omega
  have wo : IntKind.i64.wrap (o : Int) = o := IntWalk.i64_in _ (by omega)
  have ws : IntKind.i64.wrap (s : Int) = s := IntWalk.i64_in _ (by omega)
  have fx : fine xe = true := nx.fine (by
    rw [hU]
    generalize 2 ^ 1071 = T
    rw [← Nat.mul_assoc]; exact Nat.mul_le_mul_right _ (by omega))
  have bd : Nat.min o s * 8 ≤ (8 - e) * o + e * s ∧ (8 - e) * o + e * s ≤ Nat.max o s * 8 := by
    have : e = 0 ∨ e = 1 ∨ e = 2 ∨ e = 3 ∨ e = 4 ∨ e = 5 ∨ e = 6 ∨ e = 7 ∨ e = 8 := by omega
    have p1 : Nat.min o s ≤ o := Nat.min_le_left _ _
    have p2 : Nat.min o s ≤ s := Nat.min_le_right _ _
    have p3 : o ≤ Nat.max o s := Nat.le_max_left _ _
    have p4 : s ≤ Nat.max o s := Nat.le_max_right _ _
    rcases this with rfl | rfl | rfl | rfl | rfl | rfl | rfl | rfl | rfl <;> omega
  have lmn : Nat.min (o * U) (s * U) = Nat.min o s * U := (Nat.mul_min_mul_right o s U)
  have lmx : Nat.max (o * U) (s * U) = Nat.max o s * U := (Nat.mul_max_mul_right o s U)
  rw [lmn] at g2
  rw [lmx] at g4
  refine gaugeWhole_ev o s (intOf x2) e hn he xe mn mx ye (((8 - e) * o + e * s : Nat) : Int) (smooth_ev 25 _ _ e (by omega) (by omega) fo fs h1 h2 h3 h4 h5) fx g1 ?_ g3 ?_ ?_ ?_ h6 ?_ ?_
  · rw [nx.lt g2, decide_eq_false_iff_not, hU]
    generalize 2 ^ 1071 = T
    rw [← Nat.mul_assoc]
    exact Nat.not_lt.2 (Nat.mul_le_mul_right _ bd.1)
  · rw [g4.lt nx, decide_eq_false_iff_not, hU]
    generalize 2 ^ 1071 = T
    rw [← Nat.mul_assoc]
    exact Nat.not_lt.2 (Nat.mul_le_mul_right _ bd.2)
  · rintro rfl
    rw [nx.eq no, decide_eq_true_iff, hU]
    generalize 2 ^ 1071 = T
    rw [← Nat.mul_assoc]
    congr 1; omega
  · rintro rfl
    rw [nx.eq ns, decide_eq_true_iff, hU]
    generalize 2 ^ 1071 = T
    rw [← Nat.mul_assoc]
    congr 1; omega
  · rw [w8, wo, ws, ← Int.natCast_mul, ← Int.natCast_mul, IntWalk.i64_in (((8 - e) * o : Nat) : Int) (by omega), IntWalk.i64_in ((e * s : Nat) : Int) (by omega), ← Int.natCast_add, IntWalk.i64_in _ (by omega)]
  · rw [ny.eq nN, decide_eq_true_iff]
open Go.ChangeShapes Go.WideShapes Go.ChangeAt Go.RowKit
set_option maxRecDepth 100000
theorem own : ownKnob Try.prog.godebug = none := by kernel_rfl
theorem laidOut : laidOutB Try.prog = true := by kernel_rfl
theorem lifted (os : Os) (started : os.Started) (H : Type) (enc : TypeId × Value → H) :
    ReturnsInHanded {} Try.checked os 5 .any (Rows.gaugeWholeSpec.pre6 enc Try.prog Try.f5 Rows.gaugeWholeRow.domain false) (Rows.gaugeWholeSpec.post enc Try.prog Try.f5 false true false false) := by
  refine returnsInHanded_of_change (C := Try.checked) own started (by kernel_rfl) Try.func5
    (ChangeSpec.witness6 (enc := enc) (C := Try.checked) false ⟨#[], #[Z31.val, Z31.val, Z3.val], []⟩ 8 (by kernel_rfl) (by kernel_rfl) (by kernel_rfl) (by kernel_rfl)) ?_
  intro W base args ds gs before hval0 hW hcnd _
  have hval : ∀ (j : Nat) t v, Try.f5.params[j]? = some t → args[j]? = some v → Value.okWide Try.prog W .any base t v := hval0
  have hW' := hW
  obtain ⟨p, q, hA0, hV, rfl, hfz, hnd⟩ := hW
  have hA : DataW.TrodAll enc Try.prog W 0 (fun _ => true) true Try.f5.params.toList args.toList ds p := hA0
  rw [Try.params5] at hA hval
  obtain ⟨v0, vs0, d0, ds0, p0, q0, hargs, rfl, rfl, h0, r0⟩ := trodAll_cons hA
  obtain ⟨v1, vs1, d1, ds1, p1, q1, rfl, rfl, rfl, h1, r1⟩ := trodAll_cons r0
  obtain ⟨v2, vs2, d2, ds2, p2, q2, rfl, rfl, rfl, h2, r2⟩ := trodAll_cons r1
  obtain ⟨rfl, rfl, rfl⟩ := trodAll_nil r2
  obtain rfl : args = #[v0, v1, v2] := by cases args; simp_all
  obtain ⟨rfl, rfl⟩ := trodVars_none hV
  have k0 := h0
  have lt0 : ∀ x ∈ p0, x.block < W.heap.size := by obtain ⟨m, hm⟩ := k0; exact DataW.trod_lt m _ _ _ hm
  have k1 := h1
  have lt1 : ∀ x ∈ p1, x.block < W.heap.size := by obtain ⟨m, hm⟩ := k1; exact DataW.trod_lt m _ _ _ hm
  have k2 := h2
  have lt2 : ∀ x ∈ p2, x.block < W.heap.size := by obtain ⟨m, hm⟩ := k2; exact DataW.trod_lt m _ _ _ hm
  obtain ⟨x0, rfl, w0, s0, f0⟩ := open_data (d := 8) (sh := .cell (.int .u16)) (by kernel_rfl) (hval 0 31 v0 rfl rfl) h0
  obtain ⟨x1, rfl, w1, s1, f1⟩ := open_data (d := 8) (sh := .cell (.int .u16)) (by kernel_rfl) (hval 1 31 v1 rfl rfl) h1
  obtain ⟨x2, rfl, w2, s2, f2⟩ := open_data (d := 8) (sh := cI) (by kernel_rfl) (hval 2 3 v2 rfl rfl) h2
  clear hA0 hval0
  refine ((xf_sound (k := 30) (gaugeWhole_data x0 w0 s0 f0 x1 w1 s1 f1 x2 w2 s2 f2) rfl).run W [x0.val, x1.val, x2.val] ⟨⟨w0, rfl⟩, ⟨w1, rfl⟩, ⟨w2, rfl⟩, trivial⟩).mono fun e W' ⟨u, he, bel0, hr⟩ => ?_
  have bel := bel0.toK
  obtain rfl : u = .bool true := hr.2
  subst he
  exact ⟨_, rfl, _, _, _, [], _, [], hW', trodAll_mk1 (shut_bool Try.underlying4 _), trodAll_cons_mk (Go.RowKit.Below.trod laidOut (by kernel_rfl) (of_decide_eq_true (by kernel_rfl)) k0 bel lt0) (trodAll_cons_mk (Go.RowKit.Below.trod laidOut (by kernel_rfl) (of_decide_eq_true (by kernel_rfl)) k1 bel lt1) (trodAll_cons_mk (Go.RowKit.Below.trod laidOut (by kernel_rfl) (of_decide_eq_true (by kernel_rfl)) k2 bel lt2) trodAll_mk0)), rfl, bel.frame _, fun h => by cases h⟩
theorem over : Rows.gaugeWholeRow.holds Try.pinned (OpenSpec.ofChange Rows.gaugeWholeSpec) :=
  OpenClaim.holds_of_wide 5 Try.f5 rfl rfl rfl rfl rfl rfl rfl ⟨rfl, rfl, rfl, rfl, rfl⟩ rfl rfl rfl rfl rfl (by kernel_rfl) Try.func5 (by kernel_rfl)
    (of_decide_eq_true (by kernel_rfl)) (by unfold Func.isWrapper; first | (rw [if_pos (by decide +kernel)]; kernel_rfl) | (rw [if_neg (by decide +kernel)]; exact ⟨rfl, rfl⟩))
    (fun os started H enc _ => lifted os started H enc)
theorem gaugeWhole_proved : Rows.GaugeWholeSaid := over
#print axioms gaugeWhole_proved
end Go.Proofs.Ytfmbchnejelpkaa.Ev
