/- A set's low bits as a plain number: its members, its least and greatest, its subsets. -/
import Derived.Test.YthpccjgpbcginaaDoorSb
import Derived.Test.YthpccjgpbcginaaDoorSa
import Derived.Lib.TrailingZeros
import Derived.Lib.ItoaNum
namespace Go.Proofs.YthpccjgpbcginaaDoor.Ev
open Go

theorem and_nat (x : Int) (s : Nat) (hs : s < 9223372036854775808) : bits .and .i64 x (s : Int) = (((BitVec.ofInt 64 x).toNat &&& s : Nat) : Int) := by
  show IntKind.i64.wrap ((BitVec.ofInt 64 x &&& BitVec.ofInt 64 (s : Int)).toNat : Int) = _
  rw [BitVec.toNat_and]
  have e : (BitVec.ofInt 64 (s : Int)).toNat = s := by
    rw [BitVec.ofInt_natCast, BitVec.toNat_ofNat]; exact Nat.mod_eq_of_lt (by omega)
  rw [e]
  have : (BitVec.ofInt 64 x).toNat &&& s ≤ s := Nat.and_le_right
  exact IntWalk.i64_in _ (by omega)
/-- The low 16 bits of a set. -/
def lowN (set : Int) : Nat := (BitVec.ofInt 64 set).toNat &&& 65535
theorem lowN_eq (set : Int) : bits .and .i64 set 65535 = (lowN set : Int) := and_nat set 65535 (by decide)
theorem lowN_lt (set : Int) : lowN set < 65536 := by
  have : lowN set ≤ 65535 := Nat.and_le_right
  omega
theorem has_low' {set : Int} (hs : inI set) {m : Nat} (hm : m < 16) : has set m = (lowN set).testBit m := by
  rw [has_nat hs hm]
  unfold lowN tb
  rw [Nat.testBit_and]
  have e : (65535 : Nat).testBit m = true := by
    have := Nat.testBit_two_pow_sub_one 16 m
    simp only [show (2 : Nat) ^ 16 - 1 = 65535 from rfl] at this
    rw [this]; exact decide_eq_true hm
  rw [e, Bool.and_true]
  rfl
theorem wrap_sub (u s : Nat) (hu : u < 65536) (hs : s < 65536) : bits .and .i64 (IntKind.i64.wrap ((u : Int) - (s : Int))) (s : Int) = (((u + 2 ^ 64 - s) % 2 ^ 64 &&& s : Nat) : Int) := by
  rw [and_nat _ s (by omega), ofInt_wrap]
  congr 2
  rw [BitVec.toNat_ofInt]
  have : ((2 ^ 64 : Nat) : Int) = 18446744073709551616 := by decide
  rw [this]
  have : (2 : Nat) ^ 64 = 18446744073709551616 := by decide
  rw [this]
  omega
theorem pc_zero : ∀ w, pc w 0 = 0
  | 0 => rfl
  | w + 1 => by rw [pc, Nat.zero_div, pc_zero w]
theorem pc_ext : ∀ (w j s : Nat), s < 2 ^ w → pc (w + j) s = pc w s
  | 0, j, s, h => by
    have : s = 0 := by simpa using h
    subst this; rw [pc_zero]; rfl
  | w + 1, j, s, h => by
    rw [show w + 1 + j = (w + j) + 1 by omega, pc, pc, pc_ext w j (s / 2) (by rw [Nat.pow_succ] at h; omega)]
def cnt (s : Nat) : Nat := pc 64 s
theorem cnt_eq {s : Nat} (h : s < 65536) : cnt s = pc 16 s := pc_ext 16 48 s h
theorem cnt_le {s : Nat} (h : s < 65536) : cnt s ≤ 16 := by rw [cnt_eq h]; exact pc_le 16 s
theorem two64 {s : Nat} (h : s < 65536) : s < 2 ^ 64 := Nat.lt_of_lt_of_le h (by decide)
/-- The subset of number k. -/
def sub (s k : Nat) : Nat := pdep 64 s k
theorem sub_mono {s i j : Nat} (h : i < j) (hj : j < 2 ^ cnt s) : sub s i < sub s j := pdep_mono 64 s i j h hj
theorem sub_end {s : Nat} (hs : s < 65536) : sub s (2 ^ cnt s - 1) = s := pdep_last 64 s (two64 hs)
theorem sub_nx {s k : Nat} (hs : s < 65536) (hk : k < 2 ^ cnt s) : (sub s k + 2 ^ 64 - s) % 2 ^ 64 &&& s = sub s ((k + 1) % 2 ^ cnt s) := nx_pdep 64 s k (two64 hs) hk
theorem sub_in (s k : Nat) : sub s k &&& s = sub s k := pdep_sub 64 s k
theorem sub_le (s k : Nat) : sub s k ≤ s := Nat.le_trans (Nat.le_of_eq (sub_in s k).symm) Nat.and_le_right
theorem sub_next {s k : Nat} (hs : s < 65536) (hk : k < 2 ^ cnt s) : bits .and .i64 (IntKind.i64.wrap ((sub s k : Int) - (s : Int))) (s : Int) = ((sub s ((k + 1) % 2 ^ cnt s) : Nat) : Int) := by
  have := sub_le s k
  rw [wrap_sub _ _ (by omega) hs, sub_nx hs hk]
theorem sub_zero (s : Nat) : sub s 0 = 0 := pdep_zero 64 s
theorem sub_pos {s k : Nat} (h0 : 0 < k) (hk : k < 2 ^ cnt s) : 0 < sub s k := by
  have := sub_mono (s := s) h0 hk
  rw [sub_zero] at this; exact this
theorem sub_last {s k : Nat} (hs : s < 65536) (hk : k < 2 ^ cnt s) : sub s k = s ↔ k = 2 ^ cnt s - 1 := by
  have hl := sub_end hs
  constructor
  · intro h
    rcases Nat.lt_or_ge k (2 ^ cnt s - 1) with hlt | hge
    · have := sub_mono (s := s) hlt (by omega)
      rw [hl, h] at this
      omega
    · omega
  · intro e; rw [e]; exact hl
theorem sub_out (s k : Nat) (hs : s < 65536) : bits .andNot .i64 (sub s k : Int) (s : Int) = 0 := by
  refine tb_ext (inI_bits _ _ _) ⟨by decide, by decide⟩ fun i hi => ?_
  rw [tb_andNot _ _ hi, tb_nat _ _ hi, tb_nat _ _ hi, tb_zero]
  have h := congrArg (fun x => Nat.testBit x i) (sub_in s k)
  simp only [Nat.testBit_and] at h
  rw [← h]
  cases (sub s k).testBit i <;> cases s.testBit i <;> rfl

/- The least and the greatest member. -/
theorem ctz_at : ∀ (f x : Nat), 0 < x → x < 2 ^ f → x.testBit (Lib.ctzFrom f x) = true ∧ ∀ i, i < Lib.ctzFrom f x → x.testBit i = false
  | 0, x, h0, h => by simp at h; omega
  | f + 1, x, h0, h => by
    unfold Lib.ctzFrom
    by_cases e : x % 2 = 1
    · rw [if_pos e]
      exact ⟨by rw [Nat.testBit_zero]; simp [e], fun i hi => by omega⟩
    · rw [if_neg e]
      obtain ⟨h1, h2⟩ := ctz_at f (x / 2) (by omega) (by rw [Nat.pow_succ] at h; omega)
      refine ⟨by rw [Nat.add_comm, Nat.testBit_succ]; exact h1, fun i hi => ?_⟩
      cases i with
      | zero => rw [Nat.testBit_zero]; simp [e]
      | succ i => rw [Nat.testBit_succ]; exact h2 i (by omega)
theorem low_at {s : Nat} (h0 : 0 < s) (hs : s < 65536) : s.testBit (Lib.ctz 64 s) = true ∧ (∀ i, i < Lib.ctz 64 s → s.testBit i = false) ∧ Lib.ctz 64 s < 16 := by
  have h := ctz_at 64 s h0 (two64 hs)
  unfold Lib.ctz
  rw [if_neg (by omega)]
  refine ⟨h.1, h.2, ?_⟩
  rcases Nat.lt_or_ge (Lib.ctzFrom 64 s) 16 with hl | hl
  · exact hl
  · have := Nat.testBit_lt_two_pow (x := s) (i := Lib.ctzFrom 64 s) (Nat.lt_of_lt_of_le hs (Nat.pow_le_pow_right (n := 2) (by decide) hl))
    rw [h.1] at this; cases this
theorem high_at {s : Nat} (h0 : 0 < s) (hs : s < 65536) : ∃ t, Lib.bitLen s = t + 1 ∧ t < 16 ∧ s.testBit t = true ∧ ∀ i, t < i → s.testBit i = false := by
  obtain ⟨h1, h2, h3⟩ := Lib.bitLenAux_bounds 64 s (two64 hs) (by omega)
  have hle := Lib.bitLen_le s 16 (by decide) hs
  obtain ⟨t, ht⟩ : ∃ t, Lib.bitLen s = t + 1 := ⟨Lib.bitLen s - 1, by have : 1 ≤ Lib.bitLen s := h1; omega⟩
  have h2 : 2 ^ (Lib.bitLen s - 1) ≤ s := h2
  have h3 : s < 2 ^ Lib.bitLen s := h3
  rw [ht] at h2 h3 hle
  rw [show t + 1 - 1 = t by omega] at h2
  refine ⟨t, ht, by omega, ?_, fun i hi => Nat.testBit_lt_two_pow (Nat.lt_of_lt_of_le h3 (Nat.pow_le_pow_right (by decide) hi))⟩
  obtain ⟨j, hj, hb⟩ := Nat.exists_ge_and_testBit_of_ge_two_pow h2
  have : j = t := by
    rcases Nat.lt_or_ge t j with hlt | hge
    · have := Nat.testBit_lt_two_pow (x := s) (i := j) (Nat.lt_of_lt_of_le h3 (Nat.pow_le_pow_right (by decide) hlt))
      rw [hb] at this; cases this
    · omega
  rw [← this]; exact hb
theorem zero_bits {s : Nat} : (∀ i, i < 16 → s.testBit i = false) → s < 65536 → s = 0 := fun h hs =>
  Nat.eq_of_testBit_eq fun i => by
    rw [Nat.zero_testBit]
    by_cases hi : i < 16
    · exact h i hi
    · exact Nat.testBit_lt_two_pow (Nat.lt_of_lt_of_le hs (show 2 ^ 16 ≤ 2 ^ i from Nat.pow_le_pow_right (by decide) (by omega)))
end Go.Proofs.YthpccjgpbcginaaDoor.Ev
