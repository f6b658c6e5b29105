/- Subsets of a set, counted: plain numbers. -/
import Derived.Test.YthpccjgpbcginaaDoorEvBits
namespace Go.Proofs.YthpccjgpbcginaaDoor.Ev
open Go

/-- How many of the first w bits are set. -/
def pc : Nat → Nat → Nat
  | 0, _ => 0
  | w + 1, s => s % 2 + pc w (s / 2)
/-- The subset with number k. -/
def pdep : Nat → Nat → Nat → Nat
  | 0, _, _ => 0
  | w + 1, s, k => if s % 2 = 1 then 2 * pdep w (s / 2) (k / 2) + k % 2 else 2 * pdep w (s / 2) k

theorem and_step (a b : Nat) : a &&& b = 2 * (a / 2 &&& b / 2) + a % 2 * (b % 2) := by
  have h1 : (a &&& b) / 2 = a / 2 &&& b / 2 := Nat.and_div_two
  have h2 : (a &&& b) % 2 = a % 2 * (b % 2) := by
    have h := Nat.and_mod_two_pow (a := a) (b := b) (n := 1)
    rw [Nat.pow_one] at h
    rw [h]
    rcases Nat.mod_two_eq_zero_or_one a with e | e <;> rcases Nat.mod_two_eq_zero_or_one b with e' | e' <;> rw [e, e'] <;> rfl
  omega
theorem and_two {a b c d : Nat} (hc : c < 2) (hd : d < 2) : (2 * a + c) &&& (2 * b + d) = 2 * (a &&& b) + c * d := by
  rw [and_step, show (2 * a + c) / 2 = a by omega, show (2 * b + d) / 2 = b by omega, show (2 * a + c) % 2 = c by omega, show (2 * b + d) % 2 = d by omega]

theorem pdep_lt : ∀ (w s k : Nat), pdep w s k < 2 ^ w
  | 0, _, _ => by simp [pdep]
  | w + 1, s, k => by
    have h1 := pdep_lt w (s / 2) (k / 2)
    have h2 := pdep_lt w (s / 2) k
    unfold pdep
    rw [Nat.pow_succ]
    split <;> omega
theorem pdep_sub : ∀ (w s k : Nat), pdep w s k &&& s = pdep w s k
  | 0, _, _ => by simp [pdep]
  | w + 1, s, k => by
    have h1 := pdep_sub w (s / 2) (k / 2)
    have h2 := pdep_sub w (s / 2) k
    have e : s = 2 * (s / 2) + s % 2 := by omega
    unfold pdep
    split
    · rename_i hc
      conv => lhs; arg 2; rw [e, hc]
      rw [and_two (by omega) (by omega), h1, Nat.mul_one]
    · conv => lhs; arg 2; rw [e]
      rw [show 2 * pdep w (s / 2) k = 2 * pdep w (s / 2) k + 0 from rfl, and_two (by omega) (by omega), h2, Nat.zero_mul]
theorem mod_two_pow (X w : Nat) : X % 2 ^ (w + 1) = 2 * (X / 2 % 2 ^ w) + X % 2 := by
  rw [Nat.pow_succ, Nat.mul_comm, Nat.mod_mul]; omega
theorem full : ∀ (w t s : Nat), s < 2 ^ w → t &&& s = t → (t + 2 ^ w - s - 1) % 2 ^ w &&& s = t
  | 0, t, s, h, ht => by
    have : s = 0 := by simpa using h
    subst this
    rw [Nat.and_zero] at ht ⊢; exact ht
  | w + 1, t, s, h, ht => by
    have es : s = 2 * (s / 2) + s % 2 := by omega
    have et : t = 2 * (t / 2) + t % 2 := by omega
    have hs : s / 2 < 2 ^ w := by rw [Nat.pow_succ] at h; omega
    have h0 := and_step t s
    rw [ht] at h0
    have hle : t / 2 &&& s / 2 ≤ t / 2 := Nat.and_le_left
    have hd : t % 2 * (s % 2) ≤ t % 2 := by rcases Nat.mod_two_eq_zero_or_one s with e | e <;> rw [e] <;> omega
    have ht' : t / 2 &&& s / 2 = t / 2 := by omega
    have hd' : t % 2 * (s % 2) = t % 2 := by omega
    have ih := full w (t / 2) (s / 2) hs ht'
    have hX : (t + 2 ^ (w + 1) - s - 1) / 2 = t / 2 + 2 ^ w - s / 2 - 1 := by
      rw [Nat.pow_succ]
      rcases Nat.mod_two_eq_zero_or_one s with e | e <;> rcases Nat.mod_two_eq_zero_or_one t with e' | e' <;> rw [e, e'] at hd' <;> omega
    have hY : (t + 2 ^ (w + 1) - s - 1) % 2 * (s % 2) = t % 2 := by
      rw [Nat.pow_succ]
      rcases Nat.mod_two_eq_zero_or_one s with e | e <;> rcases Nat.mod_two_eq_zero_or_one t with e' | e' <;> rw [e, e'] at hd' ⊢ <;> omega
    rw [mod_two_pow, hX]
    conv => lhs; arg 2; rw [es]
    rw [and_two (by omega) (by omega), ih, hY]; omega
theorem nx_pdep : ∀ (w s k : Nat), s < 2 ^ w → k < 2 ^ pc w s → (pdep w s k + 2 ^ w - s) % 2 ^ w &&& s = pdep w s ((k + 1) % 2 ^ pc w s)
  | 0, s, k, h, _ => by
    have : s = 0 := by simpa using h
    subst this
    rw [Nat.and_zero]; rfl
  | w + 1, s, k, h, hk => by
    have es : s = 2 * (s / 2) + s % 2 := by omega
    have hs : s / 2 < 2 ^ w := by rw [Nat.pow_succ] at h; omega
    have ps := pdep_sub w (s / 2) (k / 2)
    unfold pc at hk
    rcases Nat.mod_two_eq_zero_or_one s with e | e
    · rw [e, Nat.zero_add] at hk
      have ih := nx_pdep w (s / 2) k hs hk
      have e2 : pc (w + 1) s = pc w (s / 2) := by rw [pc, e, Nat.zero_add]
      have e3 : ∀ j, pdep (w + 1) s j = 2 * pdep w (s / 2) j := fun j => by rw [pdep, if_neg (by omega)]
      rw [e2, e3 ((k + 1) % _), e3 k, mod_two_pow, Nat.pow_succ]
      rw [show (2 * pdep w (s / 2) k + 2 ^ w * 2 - s) / 2 = pdep w (s / 2) k + 2 ^ w - s / 2 by omega, show (2 * pdep w (s / 2) k + 2 ^ w * 2 - s) % 2 = 0 by omega]
      conv => lhs; arg 2; rw [es]
      rw [and_two (by omega) (by omega), ih, Nat.zero_mul, Nat.add_zero]
    · have e3 : ∀ j, pdep (w + 1) s j = 2 * pdep w (s / 2) (j / 2) + j % 2 := fun j => by rw [pdep, if_pos e]
      have e2 : pc (w + 1) s = pc w (s / 2) + 1 := by rw [pc, e, Nat.add_comm]
      rw [e, Nat.add_comm, Nat.pow_succ] at hk
      have ih := nx_pdep w (s / 2) (k / 2) hs (by omega)
      have fl := full w (pdep w (s / 2) (k / 2)) (s / 2) hs ps
      rw [e2, e3 ((k + 1) % _), e3 k, mod_two_pow, Nat.pow_succ, Nat.pow_succ]
      have hm : (k + 1) % (2 ^ pc w (s / 2) * 2) = 2 * ((k + 1) / 2 % 2 ^ pc w (s / 2)) + (k + 1) % 2 := by rw [← Nat.pow_succ]; exact mod_two_pow _ _
      rcases Nat.mod_two_eq_zero_or_one k with d | d
      · rw [d, Nat.add_zero]
        rw [show (2 * pdep w (s / 2) (k / 2) + 2 ^ w * 2 - s) / 2 = pdep w (s / 2) (k / 2) + 2 ^ w - s / 2 - 1 by omega, show (2 * pdep w (s / 2) (k / 2) + 2 ^ w * 2 - s) % 2 = 1 by omega]
        conv => lhs; arg 2; rw [es]
        rw [and_two (by omega) (by omega), fl, e, hm]
        rw [show (k + 1) / 2 = k / 2 by omega, Nat.mod_eq_of_lt (a := k / 2) (by omega), show (k + 1) % 2 = 1 by omega]
        rw [show (2 * (k / 2) + 1) / 2 = k / 2 by omega, show (2 * (k / 2) + 1) % 2 = 1 by omega]
      · rw [d]
        rw [show (2 * pdep w (s / 2) (k / 2) + 1 + 2 ^ w * 2 - s) / 2 = pdep w (s / 2) (k / 2) + 2 ^ w - s / 2 by omega, show (2 * pdep w (s / 2) (k / 2) + 1 + 2 ^ w * 2 - s) % 2 = 0 by omega]
        conv => lhs; arg 2; rw [es]
        rw [and_two (by omega) (by omega), ih, hm, Nat.zero_mul]
        rw [show (k + 1) / 2 = k / 2 + 1 by omega, show (k + 1) % 2 = 0 by omega]
        rw [show (2 * ((k / 2 + 1) % 2 ^ pc w (s / 2)) + 0) / 2 = (k / 2 + 1) % 2 ^ pc w (s / 2) by omega, show (2 * ((k / 2 + 1) % 2 ^ pc w (s / 2)) + 0) % 2 = 0 by omega]
theorem pdep_mono : ∀ (w s i j : Nat), i < j → j < 2 ^ pc w s → pdep w s i < pdep w s j
  | 0, s, i, j, h, hj => by simp [pc] at hj; omega
  | w + 1, s, i, j, h, hj => by
    unfold pc at hj
    unfold pdep
    rcases Nat.mod_two_eq_zero_or_one s with e | e
    · rw [if_neg (by omega), if_neg (by omega)]
      rw [e, Nat.zero_add] at hj
      have := pdep_mono w (s / 2) i j h hj
      omega
    · rw [if_pos e, if_pos e]
      rw [e, Nat.add_comm, Nat.pow_succ] at hj
      rcases Nat.lt_or_ge (i / 2) (j / 2) with hlt | hge
      · have := pdep_mono w (s / 2) (i / 2) (j / 2) hlt (by omega)
        omega
      · have e1 : i / 2 = j / 2 := by omega
        rw [e1]; omega
theorem pdep_zero : ∀ (w s : Nat), pdep w s 0 = 0
  | 0, _ => rfl
  | w + 1, s => by
    unfold pdep
    rw [Nat.zero_div, pdep_zero w (s / 2)]; split <;> rfl
theorem pdep_last : ∀ (w s : Nat), s < 2 ^ w → pdep w s (2 ^ pc w s - 1) = s
  | 0, s, h => by have : s = 0 := by simpa using h
                  subst this; rfl
  | w + 1, s, h => by
    have hs : s / 2 < 2 ^ w := by rw [Nat.pow_succ] at h; omega
    have ih := pdep_last w (s / 2) hs
    have hp : 0 < 2 ^ pc w (s / 2) := Nat.pow_pos (by decide)
    unfold pdep pc
    rcases Nat.mod_two_eq_zero_or_one s with e | e
    · rw [if_neg (by omega), e, Nat.zero_add, ih]; omega
    · rw [if_pos e, e, Nat.add_comm 1 (pc w (s / 2)), Nat.pow_succ, show (2 ^ pc w (s / 2) * 2 - 1) / 2 = 2 ^ pc w (s / 2) - 1 by omega, ih]; omega
theorem pc_le : ∀ (w s : Nat), pc w s ≤ w
  | 0, _ => Nat.le_refl _
  | w + 1, s => by unfold pc; have := pc_le w (s / 2); omega
theorem pc_list : ∀ (w s : Nat), ((List.range w).filter fun i => s.testBit i).length = pc w s
  | 0, _ => rfl
  | w + 1, s => by
    rw [List.range_succ_eq_map, List.filter_cons, List.filter_map]
    have e : (fun i => s.testBit i) ∘ Nat.succ = fun i => (s / 2).testBit i := by
      funext i; simp [Nat.testBit_succ]
    rw [e]
    have ih := pc_list w (s / 2)
    have e0 : s.testBit 0 = decide (s % 2 = 1) := Nat.testBit_zero s
    unfold pc
    rw [e0]
    rcases Nat.mod_two_eq_zero_or_one s with q | q <;> simp [q, ih, Nat.add_comm]
end Go.Proofs.YthpccjgpbcginaaDoor.Ev
