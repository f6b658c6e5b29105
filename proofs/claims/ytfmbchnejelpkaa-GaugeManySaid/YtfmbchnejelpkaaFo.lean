/- Numbers of 64 bits: what each stands for, in units of the least; how two compare. -/
import Derived.Test.YtfmbchnejelpkaaEvS
namespace Go.Proofs.Ytfmbchnejelpkaa.Ev
open Go Ieee
set_option maxRecDepth 100000

theorem signed_add (s : Bool) (m k c : Nat) : signed s m (k + c) = signed s m k * 2 ^ c := by
  unfold signed
  have : ((m <<< (k + c) : Nat) : Int) = ((m <<< k : Nat) : Int) * 2 ^ c := by
    rw [Nat.shiftLeft_eq, Nat.shiftLeft_eq, Nat.pow_add]; push_cast; rw [Int.mul_assoc]
  cases s
  · simp only [Bool.false_eq_true, if_false]; exact this
  · simp only [if_true]; rw [this, Int.neg_mul]
theorem signed_natAbs (s : Bool) (m k : Nat) : (signed s m k).natAbs = m * 2 ^ k := by
  unfold signed; rw [Nat.shiftLeft_eq]; cases s
  · exact Int.natAbs_natCast _
  · simp only [if_true, Int.natAbs_neg]; exact Int.natAbs_natCast _
theorem signed_false (m k : Nat) : signed false m k = ((m * 2 ^ k : Nat) : Int) := by unfold signed; rw [Nat.shiftLeft_eq]; rfl
theorem signed_true (m k : Nat) : signed true m k = -((m * 2 ^ k : Nat) : Int) := by unfold signed; rw [Nat.shiftLeft_eq]; rfl

def top : Nat := 3000
/-- The number in units of the least one; infinity is past all numbers. -/
def dval : Datum → Option Int
  | .nan .. => none
  | .infinity s => some (signed s 1 top)
  | .number s m i => some (signed s m (i + 1074).toNat)
def fval (b : Nat) : Option Int := dval (double.read b)

theorem read_num {b : Nat} {s : Bool} {m : Nat} {i : Int} (h : double.read b = .number s m i) : -1074 ≤ i ∧ i ≤ 971 ∧ m < 9007199254740992 := by
  have e1 : double.leastPlace = -1074 := rfl
  have e2 : double.binade = 4503599627370496 := rfl
  have e3 : double.infRung = 9218868437227405312 := rfl
  unfold Format.read at h
  simp only [e1, e2, e3] at h
  split at h
  · cases h; omega
  · split at h
    · cases h; omega
    · split at h <;> cases h

theorem pw_lt {a b c m n : Nat} (hm : m < 2 ^ a) (hn : n ≤ b) (h : a + b ≤ c) : m * 2 ^ n < 2 ^ c := by
  have h1 : m * 2 ^ n < 2 ^ a * 2 ^ n := Nat.mul_lt_mul_of_pos_right hm (Nat.pow_pos (by decide))
  rw [← Nat.pow_add] at h1
  exact Nat.lt_of_lt_of_le h1 (Nat.pow_le_pow_right (by decide) (by omega))
theorem small_lt {m : Nat} {i : Int} (hm : m < 9007199254740992) (hi : i ≤ 971) : m * 2 ^ (i + 1074).toNat < 2 ^ top :=
  pw_lt (a := 53) (b := 2045) (c := top) hm (by omega) (by decide)

/-- One, in units of the least number. -/
def U : Nat := 2 ^ 1074
theorem U_eq {k : Nat} (h : k = 1074) : U = 2 ^ k := by subst h; rfl
theorem U_pos' {k : Nat} (h : k = 1074) : 0 < U := by rw [U_eq h]; exact Nat.pow_pos (by decide)
theorem U_pos : 0 < U := U_pos' rfl
theorem U_split {a b : Nat} (h : a + b = 1074) : U = 2 ^ a * 2 ^ b := by rw [U_eq h, Nat.pow_add]
theorem U_pow' (n : Nat) {k : Nat} (h : k = 1074) : 2 ^ (n + k) = 2 ^ n * U := by rw [U_eq h, Nat.pow_add]
theorem U_pow (n : Nat) : 2 ^ (n + 1074) = 2 ^ n * U := U_pow' n rfl
theorem U_top' {k : Nat} (h : k = 1074) : 65536 * U < 2 ^ top := by rw [U_eq h]; exact pw_lt (a := 17) (b := 1074) (by decide) (by omega) (by decide)
theorem U_top : 65536 * U < 2 ^ top := U_top' rfl
theorem compare_mul {x y c : Int} (hc : 0 < c) : compare (x * c) (y * c) = compare x y := by
  have h1 : x * c < y * c ↔ x < y := Int.mul_lt_mul_right hc
  have h2 : x * c = y * c ↔ x = y := ⟨fun h => Int.eq_of_mul_eq_mul_right (by omega) h, fun h => by rw [h]⟩
  simp only [compare, compareOfLessAndEq, h1, h2]

theorem order_val (a b : Nat) : double.order a b = match fval a, fval b with
    | some x, some y => some (compare x y)
    | _, _ => none := by
  unfold Format.order fval
  cases ha : double.read a with
  | nan s t => cases double.read b <;> rfl
  | infinity s =>
    cases hb : double.read b with
    | nan t u => rfl
    | infinity t => cases s <;> cases t <;> decide +kernel
    | number t n j =>
      obtain ⟨h1, h2, h3⟩ := read_num hb
      have h4 := signed_natAbs t n (j + 1074).toNat
      have h5 := small_lt h3 h2
      have h6 := signed_natAbs s 1 top
      simp only [Datum.order, dval]
      generalize signed t n (j + 1074).toNat = y at *
      cases s
      · rw [signed_false] at h6 ⊢
        generalize 2 ^ top = K at *
        simp only [compare, compareOfLessAndEq, Bool.false_eq_true, if_false]
        rw [if_neg (by omega), if_neg (by omega)]
      · rw [signed_true] at h6 ⊢
        generalize 2 ^ top = K at *
        simp only [compare, compareOfLessAndEq, if_true]
        rw [if_pos (by omega)]
  | number s m i =>
    obtain ⟨g1, g2, g3⟩ := read_num ha
    have g4 := signed_natAbs s m (i + 1074).toNat
    have g5 := small_lt g3 g2
    cases hb : double.read b with
    | nan t u => rfl
    | infinity t =>
      have h6 := signed_natAbs t 1 top
      simp only [Datum.order, dval]
      generalize signed s m (i + 1074).toNat = y at *
      cases t
      · rw [signed_false] at h6 ⊢
        generalize 2 ^ top = K at *
        simp only [compare, compareOfLessAndEq, Bool.false_eq_true, if_false]
        rw [if_pos (by omega)]
      · rw [signed_true] at h6 ⊢
        generalize 2 ^ top = K at *
        simp only [compare, compareOfLessAndEq, if_true]
        rw [if_neg (by omega), if_neg (by omega)]
    | number t n j =>
      obtain ⟨h1, h2, h3⟩ := read_num hb
      simp only [Datum.order, dval]
      have e1 : (i + 1074).toNat = (i - min i j).toNat + (min i j + 1074).toNat := by omega
      have e2 : (j + 1074).toNat = (j - min i j).toNat + (min i j + 1074).toNat := by omega
      rw [e1, e2, signed_add, signed_add, compare_mul (by exact Int.pow_pos (by decide))]

def olt : Option Int → Option Int → Bool
  | some x, some y => decide (x < y)
  | _, _ => false
def ole : Option Int → Option Int → Bool
  | some x, some y => decide (x ≤ y)
  | _, _ => false
def oeq : Option Int → Option Int → Bool
  | some x, some y => decide (x = y)
  | _, _ => false
theorem cmp_lt (x y : Int) : (some (compare x y) == some Ordering.lt) = decide (x < y) := by
  simp only [compare, compareOfLessAndEq]
  by_cases h : x < y
  · simp [h]
  · by_cases h2 : x = y <;> simp [h, h2] <;> decide
theorem cmp_eq (x y : Int) : (some (compare x y) == some Ordering.eq) = decide (x = y) := by
  simp only [compare, compareOfLessAndEq]
  by_cases h : x < y
  · have h2 : ¬ x = y := by omega
    simp [h, h2]
  · by_cases h2 : x = y <;> simp [h2, h] <;> decide
theorem flt_val (a b : Nat) : flt a b = olt (fval a) (fval b) := by
  unfold flt; rw [order_val]; cases fval a <;> cases fval b <;> first | rfl | exact cmp_lt _ _
theorem feq_val (a b : Nat) : feq a b = oeq (fval a) (fval b) := by
  unfold feq; rw [order_val]; cases fval a <;> cases fval b <;> first | rfl | exact cmp_eq _ _
theorem fle_val (a b : Nat) : fle a b = ole (fval a) (fval b) := by
  unfold fle; rw [order_val]; cases fval a <;> cases fval b <;> try rfl
  rename_i x y
  simp only [cmp_lt, cmp_eq, ole]
  rw [← Bool.decide_or]; exact decide_eq_decide.2 (by omega)
end Go.Proofs.Ytfmbchnejelpkaa.Ev
