/-
  Whole numbers of 64 bits, bit by bit.
-/
import Derived.WalkKit
import Derived.OpenShut
namespace Go.Proofs.YtjceimcepogkaaaGreatDoor.Ev
open Go

def inI (x : Int) : Prop := -9223372036854775808 ≤ x ∧ x ≤ 9223372036854775807
def tb (x : Int) (i : Nat) : Bool := (BitVec.ofInt 64 x).getLsbD i

theorem inI_of {x : Int} (h : (Lit.int .i64 x).wf = true) : inI x := bounds_i64 h
theorem inI_wf {x : Int} (h : inI x) : (Lit.int .i64 x).wf = true := by
  unfold inI at h
  simp [Lit.wf, IntKind.min, IntKind.max, IntKind.signed, IntKind.bits]; omega
theorem inI_bits (op : BinOp) (x y : Int) : inI (bits op .i64 x y) := inI_of (wf_bits op .i64 x y)
theorem inI_wrap (x : Int) : inI (IntKind.i64.wrap x) := inI_of (wf_wrap .i64 x)

theorem wrap_bmod (x : Int) : IntKind.i64.wrap x = x.bmod (2 ^ 64) := by
  have e : IntKind.i64.wrap x = if (true && decide (x % 18446744073709551616 ≥ 9223372036854775808)) = true then x % 18446744073709551616 - 18446744073709551616 else x % 18446744073709551616 := rfl
  rw [e]
  simp only [Int.bmod, Bool.true_and, decide_eq_true_eq]
  split <;> split <;> omega
theorem wrap_toNat (v : BitVec 64) : IntKind.i64.wrap v.toNat = v.toInt := by rw [wrap_bmod, BitVec.toInt_eq_toNat_bmod]
theorem ofInt_wrap (x : Int) : BitVec.ofInt 64 (IntKind.i64.wrap x) = BitVec.ofInt 64 x := by
  apply BitVec.eq_of_toInt_eq
  rw [BitVec.toInt_ofInt, BitVec.toInt_ofInt, wrap_bmod, Int.bmod_bmod]

theorem tb_wrap (x : Int) (i : Nat) : tb (IntKind.i64.wrap x) i = tb x i := by unfold tb; rw [ofInt_wrap]
theorem ofInt_and (x y : Int) : BitVec.ofInt 64 (bits .and .i64 x y) = BitVec.ofInt 64 x &&& BitVec.ofInt 64 y := by
  show BitVec.ofInt 64 (IntKind.i64.wrap (BitVec.ofInt 64 x &&& BitVec.ofInt 64 y).toNat) = _
  rw [wrap_toNat, BitVec.ofInt_toInt]
theorem ofInt_or (x y : Int) : BitVec.ofInt 64 (bits .or .i64 x y) = BitVec.ofInt 64 x ||| BitVec.ofInt 64 y := by
  show BitVec.ofInt 64 (IntKind.i64.wrap (BitVec.ofInt 64 x ||| BitVec.ofInt 64 y).toNat) = _
  rw [wrap_toNat, BitVec.ofInt_toInt]
theorem ofInt_xor (x y : Int) : BitVec.ofInt 64 (bits .xor .i64 x y) = BitVec.ofInt 64 x ^^^ BitVec.ofInt 64 y := by
  show BitVec.ofInt 64 (IntKind.i64.wrap (BitVec.ofInt 64 x ^^^ BitVec.ofInt 64 y).toNat) = _
  rw [wrap_toNat, BitVec.ofInt_toInt]
theorem ofInt_andNot (x y : Int) : BitVec.ofInt 64 (bits .andNot .i64 x y) = BitVec.ofInt 64 x &&& ~~~BitVec.ofInt 64 y := by
  show BitVec.ofInt 64 (IntKind.i64.wrap (BitVec.ofInt 64 x &&& ~~~BitVec.ofInt 64 y).toNat) = _
  rw [wrap_toNat, BitVec.ofInt_toInt]

theorem tb_and (x y : Int) (i : Nat) : tb (bits .and .i64 x y) i = (tb x i && tb y i) := by unfold tb; rw [ofInt_and, BitVec.getLsbD_and]
theorem tb_or (x y : Int) (i : Nat) : tb (bits .or .i64 x y) i = (tb x i || tb y i) := by unfold tb; rw [ofInt_or, BitVec.getLsbD_or]
theorem tb_xor (x y : Int) (i : Nat) : tb (bits .xor .i64 x y) i = (tb x i ^^ tb y i) := by unfold tb; rw [ofInt_xor, BitVec.getLsbD_xor]
theorem tb_andNot (x y : Int) {i : Nat} (h : i < 64) : tb (bits .andNot .i64 x y) i = (tb x i && !tb y i) := by
  unfold tb; rw [ofInt_andNot, BitVec.getLsbD_and, BitVec.getLsbD_not]; simp [h]
theorem tb_big (x : Int) {i : Nat} (h : 64 ≤ i) : tb x i = false := BitVec.getLsbD_of_ge _ _ h
theorem tb_zero (i : Nat) : tb 0 i = false := by unfold tb; simp

theorem tb_ext {x y : Int} (hx : inI x) (hy : inI y) (h : ∀ i, i < 64 → tb x i = tb y i) : x = y := by
  have e : BitVec.ofInt 64 x = BitVec.ofInt 64 y := BitVec.eq_of_getLsbD_eq h
  have e2 := congrArg BitVec.toInt e
  rw [BitVec.toInt_ofInt, BitVec.toInt_ofInt] at e2
  unfold inI at hx hy
  simp only [Int.bmod] at e2
  omega

theorem tb_nat (n : Nat) (i : Nat) (h : i < 64) : tb (n : Int) i = n.testBit i := by
  unfold tb
  rw [BitVec.ofInt_natCast, BitVec.getLsbD_ofNat]
  simp [h]
theorem tb_one (i : Nat) : tb 1 i = decide (i = 0) := by
  by_cases h : i < 64
  · have := tb_nat (2 ^ 0) i h
    rw [Nat.testBit_two_pow] at this
    simp only [Nat.pow_zero, Int.cast_ofNat_Int] at this
    rw [this]; simp [eq_comm]
  · rw [tb_big _ (by omega)]
    simp; omega
theorem tb_ones16 (i : Nat) : tb 65535 i = decide (i < 16) := by
  by_cases h : i < 64
  · have := tb_nat (2 ^ 16 - 1) i h
    rw [Nat.testBit_two_pow_sub_one] at this
    simpa using this
  · rw [tb_big _ (by omega)]
    simp; omega
theorem tb_pow {n : Nat} (hn : n < 64) (i : Nat) : tb (IntKind.i64.wrap (1 * 2 ^ n)) i = decide (i = n) := by
  rw [tb_wrap]
  by_cases h : i < 64
  · have := tb_nat (2 ^ n) i h
    rw [Nat.testBit_two_pow] at this
    rw [show (1 * 2 ^ n : Int) = ((2 ^ n : Nat) : Int) by simp, this]
    simp [eq_comm]
  · rw [tb_big _ (by omega)]
    simp; omega
theorem ofInt_fdiv {x : Int} (hx : inI x) (n : Nat) : BitVec.ofInt 64 (x.fdiv (2 ^ n)) = (BitVec.ofInt 64 x).sshiftRight n := by
  have hp : (0 : Int) ≤ 2 ^ n := Int.pow_nonneg (by decide)
  rw [Int.fdiv_eq_ediv_of_nonneg _ hp]
  have e : (BitVec.ofInt 64 x).toInt = x := by
    rw [BitVec.toInt_ofInt]
    unfold inI at hx
    simp only [Int.bmod]
    omega
  have e2 : x / 2 ^ n = ((BitVec.ofInt 64 x).sshiftRight n).toInt := by
    rw [BitVec.toInt_sshiftRight, e, Int.shiftRight_eq_div_pow]
    simp
  rw [e2, BitVec.ofInt_toInt]
/-- 'x>>n&1 == 1'. -/
theorem low_bit {x : Int} (hx : inI x) {n : Nat} (hn : n < 64) : (bits .and .i64 (x.fdiv (2 ^ n)) 1 == 1) = tb x n := by
  have h0 : tb (x.fdiv (2 ^ n)) 0 = tb x n := by
    unfold tb
    rw [ofInt_fdiv hx, BitVec.getLsbD_sshiftRight]
    simp [hn]
  rw [← h0]
  cases h : tb (x.fdiv (2 ^ n)) 0 with
  | true =>
    have : bits .and .i64 (x.fdiv (2 ^ n)) 1 = 1 := tb_ext (inI_bits _ _ _) (by unfold inI; omega) fun i _ => by
      rw [tb_and, tb_one]
      by_cases hi : i = 0
      · subst hi; simp [h]
      · simp [hi]
    rw [this]; rfl
  | false =>
    have : bits .and .i64 (x.fdiv (2 ^ n)) 1 = 0 := tb_ext (inI_bits _ _ _) (by unfold inI; omega) fun i _ => by
      rw [tb_and, tb_one, tb_zero]
      by_cases hi : i = 0
      · subst hi; simp [h]
      · simp [hi]
    rw [this]; rfl
end Go.Proofs.YtjceimcepogkaaaGreatDoor.Ev
