/- Sets of nodes as numbers, bit by bit: plain laws of the functions of nodes. -/
import Derived.Test.YthpccjgpbcginaaDoorNa
namespace Go.Proofs.YthpccjgpbcginaaDoor.Ev
open Go
set_option linter.unusedSimpArgs false
set_option linter.unusedVariables false

theorem right_eq {n : Int} (h : right n = true) : ∃ m : Nat, m < 16 ∧ n = (m : Int) := by
  obtain ⟨h0, h1⟩ := right_nn h
  exact ⟨n.toNat, by omega, by omega⟩
theorem has_tb {s : Int} (hs : inI s) (n : Int) : has s n = (right n && tb s n.toNat) := by
  unfold has
  by_cases h : right n = true
  · obtain ⟨m, hm, rfl⟩ := right_eq h
    rw [h, Int.toNat_natCast, Nat.min_eq_left (by omega), low_bit hs (by omega)]
  · simp [h]
theorem has_nat {s : Int} (hs : inI s) {m : Nat} (h : m < 16) : has s m = tb s m := by
  rw [has_tb hs, right_of h]; simp
theorem inI_withN {s : Int} (hs : inI s) (n : Int) : inI (withN s n) := by
  unfold withN; split
  · exact inI_bits _ _ _
  · exact hs
theorem inI_withoutN {s : Int} (hs : inI s) (n : Int) : inI (withoutN s n) := by
  unfold withoutN; split
  · exact inI_bits _ _ _
  · exact hs
theorem tb_withN (s n : Int) (i : Nat) : tb (withN s n) i = (tb s i || (right n && decide (i = n.toNat))) := by
  unfold withN
  by_cases h : right n = true
  · obtain ⟨m, hm, rfl⟩ := right_eq h
    rw [if_pos h, h, Int.toNat_natCast, Nat.min_eq_left (by omega), tb_or, tb_pow (by omega)]
    simp
  · simp [h]
theorem tb_withoutN (s n : Int) (i : Nat) : tb (withoutN s n) i = (tb s i && !(right n && decide (i = n.toNat))) := by
  unfold withoutN
  by_cases h : right n = true
  · obtain ⟨m, hm, rfl⟩ := right_eq h
    rw [if_pos h, h, Int.toNat_natCast, Nat.min_eq_left (by omega)]
    by_cases hi : i < 64
    · rw [tb_andNot _ _ hi, tb_pow (by omega)]
      simp
    · rw [tb_big _ (by omega), tb_big _ (by omega)]; rfl
  · simp [h]
theorem inI_zero : inI 0 := by unfold inI; omega
theorem inI_setOf (c : Nat → Bool) : ∀ n, inI (setOf c n)
  | 0 => inI_zero
  | n + 1 => by
    show inI (if c n = true then withN (setOf c n) n else setOf c n)
    split
    · exact inI_withN (inI_setOf c n) _
    · exact inI_setOf c n
theorem tb_setOf (c : Nat → Bool) (i : Nat) : ∀ n, n ≤ 16 → tb (setOf c n) i = (decide (i < n) && c i)
  | 0, _ => by show tb 0 i = _; rw [tb_zero]; simp
  | n + 1, hn => by
    show tb (if c n = true then withN (setOf c n) n else setOf c n) i = _
    have ih := tb_setOf c i n (by omega)
    by_cases h : c n = true
    · rw [if_pos h, tb_withN, ih, right_of (by omega : n < 16)]
      by_cases e : i = n
      · subst e; simp [h]
      · have : (decide (i < n + 1)) = decide (i < n) := by simp; omega
        simp [e, this]
    · rw [if_neg h, ih]
      by_cases e : i = n
      · subst e; simp [h]
      · have : (decide (i < n + 1)) = decide (i < n) := by simp; omega
        simp [e, this]
theorem has_setOf (c : Nat → Bool) {m : Nat} (h : m < 16) : has (setOf c 16) m = c m := by
  rw [has_nat (inI_setOf c 16) h, tb_setOf c m 16 (Nat.le_refl _)]; simp [h]
/-- Two sets that have the same nodes, and no other bits. -/
theorem low_ext {s t : Int} (hs : inI s) (ht : inI t) (ls : ∀ i, 16 ≤ i → tb s i = false) (lt : ∀ i, 16 ≤ i → tb t i = false) (h : ∀ m : Nat, m < 16 → has s m = has t m) : s = t := by
  refine tb_ext hs ht fun i _ => ?_
  by_cases hi : i < 16
  · rw [← has_nat hs hi, ← has_nat ht hi]; exact h i hi
  · rw [ls i (by omega), lt i (by omega)]
theorem upto_at (c : Nat → Bool) (g : Nat → Int → Int) (l : Nat → Int) (i : Nat) : ∀ n, upto (fun k l => if c k = true then setN l k (g k (l k)) else l) l n i = if i < n ∧ c i = true then g i (l i) else l i
  | 0 => by simp [upto]
  | n + 1 => by
    have ih := fun j => upto_at c g l j n
    simp only [upto]
    by_cases hc : c n = true
    · simp only [hc, if_true, setN]
      by_cases hi : i = n
      · subst hi
        simp [hc, upto_at c g l i i]
      · rw [if_neg hi, upto_at c g l i n]
        have : (i < n + 1) = (i < n) := by simp; omega
        simp [this]
    · simp only [hc, if_false, Bool.false_eq_true]
      rw [upto_at c g l i n]
      by_cases hi : i = n
      · subst hi; simp [hc]
      · have : (i < n + 1) = (i < n) := by simp; omega
        simp [this]

end Go.Proofs.YthpccjgpbcginaaDoor.Ev
