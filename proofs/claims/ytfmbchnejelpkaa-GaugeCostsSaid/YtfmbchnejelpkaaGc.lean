/- GaugeCosts: a cost that can be is 1 to the greatest one, and never falls where what is measured rises: the statement. -/
import Derived.Test.YtfmbchnejelpkaaGa
import Derived.Test.YtfmbchnejelpkaaFn
import Derived.Test.YtfmbchnejelpkaaRows
import Derived.Test.YtfmbchnejelpkaaEvF
import Derived.ProofKit
import Derived.OpenShut
namespace Go.Proofs.Ytfmbchnejelpkaa.Ev
open Go
attribute [local congr] ob_congr sq_congr cd_congr ite_congr1 iter_congr it1_congr jumps_congr
set_option maxRecDepth 100000
set_option linter.unusedSimpArgs false
set_option linter.unusedVariables false
abbrev fMAX : Nat := 9218868437227405311
abbrev fONE : Nat := 4607182418800017408
abbrev fTOP : Nat := 4679240012837945344
def truncF (b : Nat) : Int := ((FloatKind.f64.decode b).toInt .zero).getD 0
def cost (b : Nat) : Int := if (nan b || flt fMAX b) = true then 4294967295 else if flt b fONE = true then 1 else if fle fTOP b = true then 65536 else truncF b
theorem cost_ev (k b : Nat) (h : nan b = false → flt fMAX b = false → flt b fONE = false → fle fTOP b = false → (FloatKind.f64.decode b).toInt .zero = some (truncF b) ∧ IntKind.u32.min ≤ truncF b ∧ truncF b ≤ IntKind.u32.max) :
    evF Try.prog env xf (k+3) 10 [.d (dF b)] = some (.d (.s (.int .u32 (cost b)))) := by
  rw [evF_eq Try.func10 (show Try.f10.body = some _ from rfl) rfl rfl (by show 1 ≤ 16; decide)]
  rcases Bool.eq_false_or_eq_true (nan b) with h1 | h1
  · simp (decide := true) only [isnan_ev, isinf_ev, cost, h1, Try.f10, rid, ↓sBp, sBq, List.all_cons, List.all_nil, List.map_cons, List.map_nil, D.shape, Sh.sub, Sh.size, List.getElem?_cons_zero, List.getElem?_cons_succ, Option.bind_some, Option.bind_none, Option.getD_some, Option.getD_none, V.keysIn, V.kill, V.has, decide_eq_true_eq, beq_iff_eq, bne_iff_ne, ne_eq, Bool.not_eq_true', Bool.and_true, Bool.and_self, Bool.true_and, if_true, if_false, reduceIte, Bool.false_eq_true, decide_true, decide_false, beq_self_eq_true, Bool.not_true, Bool.not_false, true_and, and_true, and_self, List.append_assoc, List.nil_append, List.cons_append, Int.toNat_natCast, ck, Int.cast_ofNat_Int, Int.reduceToNat, bne_self_eq_false, Bool.or_false, Bool.false_or, Bool.false_and, Bool.and_false, Bool.or_true, Bool.true_or]
  · rcases Bool.eq_false_or_eq_true (flt fMAX b) with h2 | h2
    · simp (decide := true) only [isnan_ev, isinf_ev, cost, h1, h2, Try.f10, rid, ↓sBp, sBq, List.all_cons, List.all_nil, List.map_cons, List.map_nil, D.shape, Sh.sub, Sh.size, List.getElem?_cons_zero, List.getElem?_cons_succ, Option.bind_some, Option.bind_none, Option.getD_some, Option.getD_none, V.keysIn, V.kill, V.has, decide_eq_true_eq, beq_iff_eq, bne_iff_ne, ne_eq, Bool.not_eq_true', Bool.and_true, Bool.and_self, Bool.true_and, if_true, if_false, reduceIte, Bool.false_eq_true, decide_true, decide_false, beq_self_eq_true, Bool.not_true, Bool.not_false, true_and, and_true, and_self, List.append_assoc, List.nil_append, List.cons_append, Int.toNat_natCast, ck, Int.cast_ofNat_Int, Int.reduceToNat, bne_self_eq_false, Bool.or_false, Bool.false_or, Bool.false_and, Bool.and_false, Bool.or_true, Bool.true_or]
    · rcases Bool.eq_false_or_eq_true (flt b fONE) with h3 | h3
      · simp (decide := true) only [isnan_ev, isinf_ev, cost, h1, h2, h3, Try.f10, rid, ↓sBp, sBq, List.all_cons, List.all_nil, List.map_cons, List.map_nil, D.shape, Sh.sub, Sh.size, List.getElem?_cons_zero, List.getElem?_cons_succ, Option.bind_some, Option.bind_none, Option.getD_some, Option.getD_none, V.keysIn, V.kill, V.has, decide_eq_true_eq, beq_iff_eq, bne_iff_ne, ne_eq, Bool.not_eq_true', Bool.and_true, Bool.and_self, Bool.true_and, if_true, if_false, reduceIte, Bool.false_eq_true, decide_true, decide_false, beq_self_eq_true, Bool.not_true, Bool.not_false, true_and, and_true, and_self, List.append_assoc, List.nil_append, List.cons_append, Int.toNat_natCast, ck, Int.cast_ofNat_Int, Int.reduceToNat, bne_self_eq_false, Bool.or_false, Bool.false_or, Bool.false_and, Bool.and_false, Bool.or_true, Bool.true_or]
      · rcases Bool.eq_false_or_eq_true (fle fTOP b) with h4 | h4
        · simp (decide := true) only [isnan_ev, isinf_ev, cost, h1, h2, h3, h4, Try.f10, rid, ↓sBp, sBq, List.all_cons, List.all_nil, List.map_cons, List.map_nil, D.shape, Sh.sub, Sh.size, List.getElem?_cons_zero, List.getElem?_cons_succ, Option.bind_some, Option.bind_none, Option.getD_some, Option.getD_none, V.keysIn, V.kill, V.has, decide_eq_true_eq, beq_iff_eq, bne_iff_ne, ne_eq, Bool.not_eq_true', Bool.and_true, Bool.and_self, Bool.true_and, if_true, if_false, reduceIte, Bool.false_eq_true, decide_true, decide_false, beq_self_eq_true, Bool.not_true, Bool.not_false, true_and, and_true, and_self, List.append_assoc, List.nil_append, List.cons_append, Int.toNat_natCast, ck, Int.cast_ofNat_Int, Int.reduceToNat, bne_self_eq_false, Bool.or_false, Bool.false_or, Bool.false_and, Bool.and_false, Bool.or_true, Bool.true_or]
        · obtain ⟨h5, h6, h7⟩ := h h1 h2 h3 h4
          simp (decide := true) only [isnan_ev, isinf_ev, cost, h1, h2, h3, h4, h5, h6, h7, Try.f10, rid, ↓sBp, sBq, List.all_cons, List.all_nil, List.map_cons, List.map_nil, D.shape, Sh.sub, Sh.size, List.getElem?_cons_zero, List.getElem?_cons_succ, Option.bind_some, Option.bind_none, Option.getD_some, Option.getD_none, V.keysIn, V.kill, V.has, decide_eq_true_eq, beq_iff_eq, bne_iff_ne, ne_eq, Bool.not_eq_true', Bool.and_true, Bool.and_self, Bool.true_and, if_true, if_false, reduceIte, Bool.false_eq_true, decide_true, decide_false, beq_self_eq_true, Bool.not_true, Bool.not_false, true_and, and_true, and_self, List.append_assoc, List.nil_append, List.cons_append, Int.toNat_natCast, ck, Int.cast_ofNat_Int, Int.reduceToNat, bne_self_eq_false, Bool.or_false, Bool.false_or, Bool.false_and, Bool.and_false, Bool.or_true, Bool.true_or]
theorem gaugeCosts_ev (a b : Nat) (ha : evF Try.prog env xf (29) 10 [.d (dF a)] = some (.d (.s (.int .u32 (cost a))))) (hb : evF Try.prog env xf (29) 10 [.d (dF b)] = some (.d (.s (.int .u32 (cost b)))))
    (h1 : 1 ≤ cost a) (h2 : cost a ≤ 65536 ∨ cost a = 4294967295) (h3 : (cost a == 4294967295) = (nan a || flt fMAX a)) (h4 : fle a b = true → cost a ≤ cost b) :
    evF Try.prog env xf (30) 4 [.d (dF a), .d (dF b)] = some (.d (.s (.bool (true)))) := by
  rw [evF_eq Try.func4 (show Try.f4.body = some _ from rfl) rfl rfl (by show 2 ≤ 44; decide)]
  have q1 : decide (cost a < 1) = false := by rw [decide_eq_false_iff_not]; omega
  have fin : ∀ x : Bool, fle a b = x → (x = true → decide (cost a ≤ cost b) = true) := fun x hx h => by rw [decide_eq_true_iff]; exact h4 (hx.trans h)
  rcases Bool.eq_false_or_eq_true (cost a == 4294967295) with h5 | h5
  · have q2 : decide (65536 < cost a) = true := by rw [decide_eq_true_iff]; have := beq_iff_eq.1 h5; omega
    have q3 : (cost a != 4294967295) = false := by rw [bne, h5]; rfl
    rw [h5] at h3
    rcases Bool.eq_false_or_eq_true (nan a) with h6 | h6
    · rcases Bool.eq_false_or_eq_true (fle a b) with h7 | h7
      · have h8 := fin _ h7 rfl
        simp (decide := true) only [ha, hb, awake_ev, isnan_ev, isinf_ev, q1, q2, q3, h5, h6, h7, h8, Try.f4, rid, ↓sBp, sBq, List.all_cons, List.all_nil, List.map_cons, List.map_nil, D.shape, Sh.sub, Sh.size, List.getElem?_cons_zero, List.getElem?_cons_succ, Option.bind_some, Option.bind_none, Option.getD_some, Option.getD_none, V.keysIn, V.kill, V.has, decide_eq_true_eq, beq_iff_eq, bne_iff_ne, ne_eq, Bool.not_eq_true', Bool.and_true, Bool.and_self, Bool.true_and, if_true, if_false, reduceIte, Bool.false_eq_true, decide_true, decide_false, beq_self_eq_true, Bool.not_true, Bool.not_false, true_and, and_true, and_self, List.append_assoc, List.nil_append, List.cons_append, Int.toNat_natCast, ck, Int.cast_ofNat_Int, Int.reduceToNat, bne_self_eq_false, Bool.or_false, Bool.false_or, Bool.false_and, Bool.and_false, Bool.or_true, Bool.true_or]
      · simp (decide := true) only [ha, hb, awake_ev, isnan_ev, isinf_ev, q1, q2, q3, h5, h6, h7, Try.f4, rid, ↓sBp, sBq, List.all_cons, List.all_nil, List.map_cons, List.map_nil, D.shape, Sh.sub, Sh.size, List.getElem?_cons_zero, List.getElem?_cons_succ, Option.bind_some, Option.bind_none, Option.getD_some, Option.getD_none, V.keysIn, V.kill, V.has, decide_eq_true_eq, beq_iff_eq, bne_iff_ne, ne_eq, Bool.not_eq_true', Bool.and_true, Bool.and_self, Bool.true_and, if_true, if_false, reduceIte, Bool.false_eq_true, decide_true, decide_false, beq_self_eq_true, Bool.not_true, Bool.not_false, true_and, and_true, and_self, List.append_assoc, List.nil_append, List.cons_append, Int.toNat_natCast, ck, Int.cast_ofNat_Int, Int.reduceToNat, bne_self_eq_false, Bool.or_false, Bool.false_or, Bool.false_and, Bool.and_false, Bool.or_true, Bool.true_or]
    · have h9 : flt fMAX a = true := by rw [h6] at h3; exact h3.symm
      rcases Bool.eq_false_or_eq_true (fle a b) with h7 | h7
      · have h8 := fin _ h7 rfl
        simp (decide := true) only [ha, hb, awake_ev, isnan_ev, isinf_ev, q1, q2, q3, h5, h6, h7, h8, h9, Try.f4, rid, ↓sBp, sBq, List.all_cons, List.all_nil, List.map_cons, List.map_nil, D.shape, Sh.sub, Sh.size, List.getElem?_cons_zero, List.getElem?_cons_succ, Option.bind_some, Option.bind_none, Option.getD_some, Option.getD_none, V.keysIn, V.kill, V.has, decide_eq_true_eq, beq_iff_eq, bne_iff_ne, ne_eq, Bool.not_eq_true', Bool.and_true, Bool.and_self, Bool.true_and, if_true, if_false, reduceIte, Bool.false_eq_true, decide_true, decide_false, beq_self_eq_true, Bool.not_true, Bool.not_false, true_and, and_true, and_self, List.append_assoc, List.nil_append, List.cons_append, Int.toNat_natCast, ck, Int.cast_ofNat_Int, Int.reduceToNat, bne_self_eq_false, Bool.or_false, Bool.false_or, Bool.false_and, Bool.and_false, Bool.or_true, Bool.true_or]
      · simp (decide := true) only [ha, hb, awake_ev, isnan_ev, isinf_ev, q1, q2, q3, h5, h6, h7, h9, Try.f4, rid, ↓sBp, sBq, List.all_cons, List.all_nil, List.map_cons, List.map_nil, D.shape, Sh.sub, Sh.size, List.getElem?_cons_zero, List.getElem?_cons_succ, Option.bind_some, Option.bind_none, Option.getD_some, Option.getD_none, V.keysIn, V.kill, V.has, decide_eq_true_eq, beq_iff_eq, bne_iff_ne, ne_eq, Bool.not_eq_true', Bool.and_true, Bool.and_self, Bool.true_and, if_true, if_false, reduceIte, Bool.false_eq_true, decide_true, decide_false, beq_self_eq_true, Bool.not_true, Bool.not_false, true_and, and_true, and_self, List.append_assoc, List.nil_append, List.cons_append, Int.toNat_natCast, ck, Int.cast_ofNat_Int, Int.reduceToNat, bne_self_eq_false, Bool.or_false, Bool.false_or, Bool.false_and, Bool.and_false, Bool.or_true, Bool.true_or]
  · have q2 : decide (65536 < cost a) = false := by rw [decide_eq_false_iff_not]; have := beq_eq_false_iff_ne.1 h5; omega
    rw [h5] at h3
    have h6 : nan a = false := by cases h : nan a <;> simp_all
    have h9 : flt fMAX a = false := by cases h : flt fMAX a <;> simp_all
    rcases Bool.eq_false_or_eq_true (fle a b) with h7 | h7
    · have h8 := fin _ h7 rfl
      simp (decide := true) only [ha, hb, awake_ev, isnan_ev, isinf_ev, q1, q2, h5, h6, h7, h8, h9, Try.f4, rid, ↓sBp, sBq, List.all_cons, List.all_nil, List.map_cons, List.map_nil, D.shape, Sh.sub, Sh.size, List.getElem?_cons_zero, List.getElem?_cons_succ, Option.bind_some, Option.bind_none, Option.getD_some, Option.getD_none, V.keysIn, V.kill, V.has, decide_eq_true_eq, beq_iff_eq, bne_iff_ne, ne_eq, Bool.not_eq_true', Bool.and_true, Bool.and_self, Bool.true_and, if_true, if_false, reduceIte, Bool.false_eq_true, decide_true, decide_false, beq_self_eq_true, Bool.not_true, Bool.not_false, true_and, and_true, and_self, List.append_assoc, List.nil_append, List.cons_append, Int.toNat_natCast, ck, Int.cast_ofNat_Int, Int.reduceToNat, bne_self_eq_false, Bool.or_false, Bool.false_or, Bool.false_and, Bool.and_false, Bool.or_true, Bool.true_or]
    · simp (decide := true) only [ha, hb, awake_ev, isnan_ev, isinf_ev, q1, q2, h5, h6, h7, h9, Try.f4, rid, ↓sBp, sBq, List.all_cons, List.all_nil, List.map_cons, List.map_nil, D.shape, Sh.sub, Sh.size, List.getElem?_cons_zero, List.getElem?_cons_succ, Option.bind_some, Option.bind_none, Option.getD_some, Option.getD_none, V.keysIn, V.kill, V.has, decide_eq_true_eq, beq_iff_eq, bne_iff_ne, ne_eq, Bool.not_eq_true', Bool.and_true, Bool.and_self, Bool.true_and, if_true, if_false, reduceIte, Bool.false_eq_true, decide_true, decide_false, beq_self_eq_true, Bool.not_true, Bool.not_false, true_and, and_true, and_self, List.append_assoc, List.nil_append, List.cons_append, Int.toNat_natCast, ck, Int.cast_ofNat_Int, Int.reduceToNat, bne_self_eq_false, Bool.or_false, Bool.false_or, Bool.false_and, Bool.and_false, Bool.or_true, Bool.true_or]

open Ieee in
theorem trunc_ok {b : Nat} {v : Int} (hv : fval b = some v) (h1 : (U : Int) ≤ v) (h2 : v < 65536 * (U : Int)) : (FloatKind.f64.decode b).toInt .zero = some (v / (U : Int)) := by
  have pp : ∀ k, 0 < 2 ^ k := fun k => Nat.pow_pos (by decide)
  have hK := U_pos
  unfold fval at hv
  show (double.read b).toInt .zero = _
  cases hr : double.read b with
  | nan s t => rw [hr] at hv; cases hv
  | infinity s =>
    rw [hr] at hv
    simp only [dval, Option.some.injEq] at hv
    have h3 := signed_natAbs s 1 top
    have h4 := U_top
    rw [hv, Nat.one_mul] at h3
    generalize U = K at *
    generalize 2 ^ top = T at *
    omega
  | number s m i =>
    obtain ⟨g1, _, _⟩ := read_num hr
    rw [hr] at hv
    simp only [dval, Option.some.injEq] at hv
    cases s with
    | true =>
      rw [signed_true] at hv
      generalize U = K at *
      omega
    | false =>
      rw [signed_false] at hv
      subst hv
      simp only [Datum.toInt, Datum.integral, signed_false, Nat.pow_zero, Nat.mul_one, Toward.cut, Bool.toNat_false, Nat.add_zero]
      rw [← Int.natCast_ediv]
      congr 2
      rcases Int.le_total 0 i with hi | hi
      · rw [show (-i).toNat = 0 by omega, Nat.zero_min, Nat.shiftLeft_eq, Nat.shiftLeft_eq, Nat.pow_zero, Nat.mul_one, Nat.div_one, show (i + 1074).toNat = i.toNat + 1074 by omega, U_pow, ← Nat.mul_assoc]
        exact (Nat.mul_div_cancel _ hK).symm
      · have e2 : m * 2 ^ (i + 1074).toNat / U = m / 2 ^ (-i).toNat := by
          rw [U_split (a := (i + 1074).toNat) (b := (-i).toNat) (by omega), Nat.mul_comm m]
          exact Nat.mul_div_mul_left _ _ (pp _)
        rw [e2, show i.toNat = 0 by omega, Nat.shiftLeft_eq, Nat.shiftLeft_eq, Nat.pow_zero, Nat.mul_one, Nat.one_mul]
        rcases Nat.le_total (-i).toNat (m.log2 + 2) with hd | hd
        · rw [Nat.min_eq_left hd]
        · rw [Nat.min_eq_right hd]
          have h5 : m < 2 ^ (m.log2 + 1) := Nat.lt_log2_self
          have h6 : m < 2 ^ (m.log2 + 2) := Nat.lt_of_lt_of_le h5 (Nat.pow_le_pow_right (by decide) (by omega))
          rw [Nat.div_eq_of_lt h6, Nat.div_eq_of_lt (Nat.lt_of_lt_of_le h6 (Nat.pow_le_pow_right (by decide) hd))]
theorem nan_val' (b : Nat) : nan b = (fval b).isNone := by
  unfold nan; rw [feq_val]; cases fval b <;> simp [oeq]
theorem nn_one : NN fONE (1 * U) := NN.mkU (a := 52) (k := 1022) (i := -52) (by decide) (by decide +kernel) (by decide) (by decide)
theorem nn_top : NN fTOP (65536 * U) := NN.mkU (a := 36) (k := 1038) (i := -36) (by decide) (by decide +kernel) (by decide) (by decide)
theorem max_val' {k : Nat} (hk : k = 1074) : ∃ M : Nat, fval fMAX = some (M : Int) ∧ 65536 * U ≤ M := by
  refine ⟨9007199254740991 * 2 ^ (971 + 1074 : Int).toNat, ?_, ?_⟩
  · unfold fval
    rw [show Ieee.double.read fMAX = .number false 9007199254740991 971 by decide +kernel]
    simp only [dval]; rw [signed_false]
  · rw [U_eq hk]
    exact Nat.mul_le_mul (by decide) (Nat.pow_le_pow_right (by decide) (by rw [hk]; decide))
theorem max_val : ∃ M : Nat, fval fMAX = some (M : Int) ∧ 65536 * U ≤ M := max_val' rfl
/-- The cost, of what the word stands for. -/
theorem cost_val (b : Nat) : ∃ (K M : Int), 0 < K ∧ 65536 * K ≤ M ∧ (∀ x, ((nan x || flt fMAX x) = true ↔ ∀ v, fval x = some v → M < v) ∧ (flt x fONE = true ↔ ∃ v, fval x = some v ∧ v < K) ∧ (fle fTOP x = true ↔ ∃ v, fval x = some v ∧ 65536 * K ≤ v) ∧
    (∀ v, fval x = some v → K ≤ v → v < 65536 * K → (FloatKind.f64.decode x).toInt .zero = some (v / K))) := by
  obtain ⟨M, hM, hM2⟩ := max_val
  have h1 := nn_one.fval
  have h2 := nn_top.fval
  rw [Int.natCast_mul] at h2
  rw [Nat.one_mul] at h1
  have hK : (0 : Int) < (U : Int) := Int.natCast_pos.2 U_pos
  have hM3 : 65536 * (U : Int) ≤ (M : Int) := by omega
  refine ⟨(U : Int), M, hK, hM3, fun x => ⟨?_, ?_, ?_, fun v hv k1 k2 => trunc_ok hv k1 k2⟩⟩
  · rw [nan_val', flt_val, hM]
    cases fval x with
    | none => simp
    | some v => simp [olt]
  · rw [flt_val, h1]
    cases fval x with
    | none => simp [olt]
    | some v => simp [olt]
  · rw [fle_val, h2]
    cases fval x with
    | none => simp [ole]
    | some v => simp only [ole, decide_eq_true_eq, Option.some.injEq, exists_eq_left']; exact Iff.rfl
theorem gaugeCosts_data (x0 : D) (w0 : x0.WF) (s0 : x0.shape = cF) (f0 : x0.fits) (x1 : D) (w1 : x1.WF) (s1 : x1.shape = cF) (f1 : x1.fits) :
    evF Try.prog env xf (30) 4 [.d x0, .d x1] = some (.d (.s (.bool (true)))) := by
  obtain ⟨a, rfl⟩ := of_f s0
  obtain ⟨b, rfl⟩ := of_f s1
  obtain ⟨K, M, hK, hM, H⟩ := cost_val a
  have main : ∀ x, (nan x = false → flt fMAX x = false → flt x fONE = false → fle fTOP x = false → (FloatKind.f64.decode x).toInt .zero = some (truncF x) ∧ IntKind.u32.min ≤ truncF x ∧ truncF x ≤ IntKind.u32.max) ∧
      ((fval x = none ∧ cost x = 4294967295 ∧ (nan x || flt fMAX x) = true) ∨ ∃ v, fval x = some v ∧ ((M < v ∧ cost x = 4294967295 ∧ (nan x || flt fMAX x) = true) ∨
        (v ≤ M ∧ (nan x || flt fMAX x) = false ∧ ((v < K ∧ cost x = 1) ∨ (65536 * K ≤ v ∧ cost x = 65536) ∨ (K ≤ v ∧ v < 65536 * K ∧ cost x = v / K))))) := by
    intro x
    obtain ⟨h1, h2, h3, h4⟩ := H x
    cases hx : fval x with
    | none =>
      have e1 : (nan x || flt fMAX x) = true := h1.2 fun v hv => by rw [hx] at hv; cases hv
      refine ⟨fun n1 n2 => (by rw [n1, n2] at e1; cases e1), .inl ⟨rfl, by unfold cost; rw [if_pos e1], e1⟩⟩
    | some v =>
      rcases Bool.eq_false_or_eq_true (nan x || flt fMAX x) with e1 | e1
      · refine ⟨fun n1 n2 => (by rw [n1, n2] at e1; cases e1), .inr ⟨v, rfl, .inl ⟨h1.1 e1 v hx, by unfold cost; rw [if_pos e1], e1⟩⟩⟩
      · have g1 : v ≤ M := by
          rcases Int.lt_or_le M v with h | h
          · have := h1.2 fun u hu => by rw [hx] at hu; cases hu; exact h
            rw [e1] at this; cases this
          · exact h
        have n1 : ¬ (nan x || flt fMAX x) = true := by rw [e1]; decide
        by_cases e2 : v < K
        · have e2' := h2.2 ⟨v, hx, e2⟩
          refine ⟨fun _ _ n3 => (by rw [n3] at e2'; cases e2'), .inr ⟨v, rfl, .inr ⟨g1, e1, .inl ⟨e2, by unfold cost; rw [if_neg n1, if_pos e2']⟩⟩⟩⟩
        · have e2' : ¬ flt x fONE = true := fun h => by obtain ⟨u, hu, hu2⟩ := h2.1 h; rw [hx] at hu; cases hu; exact e2 hu2
          by_cases e3 : 65536 * K ≤ v
          · have e3' := h3.2 ⟨v, hx, e3⟩
            refine ⟨fun _ _ _ n4 => (by rw [n4] at e3'; cases e3'), .inr ⟨v, rfl, .inr ⟨g1, e1, .inr (.inl ⟨e3, by unfold cost; rw [if_neg n1, if_neg e2', if_pos e3']⟩)⟩⟩⟩
          · have e3' : ¬ fle fTOP x = true := fun h => by obtain ⟨u, hu, hu2⟩ := h3.1 h; rw [hx] at hu; cases hu; exact e3 hu2
            have e4 := h4 v hx (by omega) (by omega)
            have e5 : truncF x = v / K := by unfold truncF; rw [e4]; rfl
            have b1 : 0 ≤ v / K := Int.ediv_nonneg (by omega) (by omega)
            have b2 : v / K < 65536 := Int.ediv_lt_of_lt_mul hK (by omega)
            have m1 : IntKind.u32.min = 0 := rfl
            have m2 : IntKind.u32.max = 4294967295 := rfl
            refine ⟨fun _ _ _ _ => ⟨by rw [e4, e5], by rw [e5, m1]; exact b1, by rw [e5, m2]; omega⟩, .inr ⟨v, rfl, .inr ⟨g1, e1, .inr (.inr ⟨by omega, by omega, by unfold cost; rw [if_neg n1, if_neg e2', if_neg e3', e5]⟩)⟩⟩⟩
  have lo : ∀ v, K ≤ v → 1 ≤ v / K := fun v h => by rw [Int.le_ediv_iff_mul_le hK]; omega
  have hi : ∀ v, v < 65536 * K → v / K ≤ 65536 := fun v h => Int.le_of_lt (Int.ediv_lt_of_lt_mul hK (by omega))
  obtain ⟨ma, ca⟩ := main a
  obtain ⟨mb, cb⟩ := main b
  refine gaugeCosts_ev a b (cost_ev 26 a ma) (cost_ev 26 b mb) ?_ ?_ ?_ ?_
  · rcases ca with ⟨_, e, _⟩ | ⟨v, hv, ⟨_, e, _⟩ | ⟨_, _, ⟨_, e⟩ | ⟨_, e⟩ | ⟨q, _, e⟩⟩⟩ <;> rw [e] <;> first | decide | exact lo v q
  · rcases ca with ⟨_, e, _⟩ | ⟨v, hv, ⟨_, e, _⟩ | ⟨_, _, ⟨_, e⟩ | ⟨_, e⟩ | ⟨_, q, e⟩⟩⟩ <;> rw [e] <;> first | decide | exact .inl (hi v q)
  · rcases ca with ⟨_, e, e1⟩ | ⟨v, hv, ⟨_, e, e1⟩ | ⟨_, e1, ⟨_, e⟩ | ⟨_, e⟩ | ⟨_, q, e⟩⟩⟩ <;> rw [e, e1] <;> first | rfl | (rw [beq_eq_false_iff_ne]; have := hi v q; omega)
  · intro hle
    rw [fle_val] at hle
    rcases ca with ⟨ea, _⟩ | ⟨v, hv, ca⟩
    · rw [ea] at hle; cases hle
    · rcases cb with ⟨eb, _⟩ | ⟨u, hu, cb⟩
      · rw [eb, hv] at hle; cases hle
      · rw [hv, hu] at hle
        have hle : v ≤ u := by simpa [ole] using hle
        have hm : v / K ≤ u / K := Int.ediv_le_ediv hK hle
        rcases ca with ⟨l1, e1, _⟩ | ⟨l1, _, ⟨l2, e1⟩ | ⟨l2, e1⟩ | ⟨l2, l3, e1⟩⟩ <;> rcases cb with ⟨r1, e2, _⟩ | ⟨r1, _, ⟨r2, e2⟩ | ⟨r2, e2⟩ | ⟨r2, r3, e2⟩⟩ <;> rw [e1, e2] <;>
          first | omega | exact hm | exact lo u r2 | exact hi v l3 | (have := hi v l3; omega)
open Go.ChangeShapes Go.WideShapes Go.ChangeAt Go.RowKit
set_option maxRecDepth 100000
theorem own : ownKnob Try.prog.godebug = none := by kernel_rfl
theorem laidOut : laidOutB Try.prog = true := by kernel_rfl
theorem lifted (os : Os) (started : os.Started) (H : Type) (enc : TypeId × Value → H) :
    ReturnsInHanded {} Try.checked os 4 .any (Rows.gaugeCostsSpec.pre6 enc Try.prog Try.f4 Rows.gaugeCostsRow.domain false) (Rows.gaugeCostsSpec.post enc Try.prog Try.f4 false true false false) := by
  refine returnsInHanded_of_change (C := Try.checked) own started (by kernel_rfl) Try.func4
    (ChangeSpec.witness6 (enc := enc) (C := Try.checked) false ⟨#[], #[Z22.val, Z22.val], []⟩ 8 (by kernel_rfl) (by kernel_rfl) (by kernel_rfl) (by kernel_rfl)) ?_
  intro W base args ds gs before hval0 hW hcnd _
  have hval : ∀ (j : Nat) t v, Try.f4.params[j]? = some t → args[j]? = some v → Value.okWide Try.prog W .any base t v := hval0
  have hW' := hW
  obtain ⟨p, q, hA0, hV, rfl, hfz, hnd⟩ := hW
  have hA : DataW.TrodAll enc Try.prog W 0 (fun _ => true) true Try.f4.params.toList args.toList ds p := hA0
  rw [Try.params4] at hA hval
  obtain ⟨v0, vs0, d0, ds0, p0, q0, hargs, rfl, rfl, h0, r0⟩ := trodAll_cons hA
  obtain ⟨v1, vs1, d1, ds1, p1, q1, rfl, rfl, rfl, h1, r1⟩ := trodAll_cons r0
  obtain ⟨rfl, rfl, rfl⟩ := trodAll_nil r1
  obtain rfl : args = #[v0, v1] := by cases args; simp_all
  obtain ⟨rfl, rfl⟩ := trodVars_none hV
  have k0 := h0
  have lt0 : ∀ x ∈ p0, x.block < W.heap.size := by obtain ⟨m, hm⟩ := k0; exact DataW.trod_lt m _ _ _ hm
  have k1 := h1
  have lt1 : ∀ x ∈ p1, x.block < W.heap.size := by obtain ⟨m, hm⟩ := k1; exact DataW.trod_lt m _ _ _ hm
  obtain ⟨x0, rfl, w0, s0, f0⟩ := open_data (d := 8) (sh := cF) (by kernel_rfl) (hval 0 22 v0 rfl rfl) h0
  obtain ⟨x1, rfl, w1, s1, f1⟩ := open_data (d := 8) (sh := cF) (by kernel_rfl) (hval 1 22 v1 rfl rfl) h1
  clear hA0 hval0
  refine ((xf_sound (k := 30) (gaugeCosts_data x0 w0 s0 f0 x1 w1 s1 f1) rfl).run W [x0.val, x1.val] ⟨⟨w0, rfl⟩, ⟨w1, rfl⟩, trivial⟩).mono fun e W' ⟨u, he, bel0, hr⟩ => ?_
  have bel := bel0.toK
  obtain rfl : u = .bool true := hr.2
  subst he
  exact ⟨_, rfl, _, _, _, [], _, [], hW', trodAll_mk1 (shut_bool Try.underlying4 _), trodAll_cons_mk (Go.RowKit.Below.trod laidOut (by kernel_rfl) (of_decide_eq_true (by kernel_rfl)) k0 bel lt0) (trodAll_cons_mk (Go.RowKit.Below.trod laidOut (by kernel_rfl) (of_decide_eq_true (by kernel_rfl)) k1 bel lt1) trodAll_mk0), rfl, bel.frame _, fun h => by cases h⟩
theorem over : Rows.gaugeCostsRow.holds Try.pinned (OpenSpec.ofChange Rows.gaugeCostsSpec) :=
  OpenClaim.holds_of_wide 4 Try.f4 rfl rfl rfl rfl rfl rfl rfl ⟨rfl, rfl, rfl, rfl, rfl⟩ rfl rfl rfl rfl rfl (by kernel_rfl) Try.func4 (by kernel_rfl)
    (of_decide_eq_true (by kernel_rfl)) (by unfold Func.isWrapper; first | (rw [if_pos (by decide +kernel)]; kernel_rfl) | (rw [if_neg (by decide +kernel)]; exact ⟨rfl, rfl⟩))
    (fun os started H enc _ => lifted os started H enc)
theorem gaugeCosts_proved : Rows.GaugeCostsSaid := over
#print axioms gaugeCosts_proved
end Go.Proofs.Ytfmbchnejelpkaa.Ev
