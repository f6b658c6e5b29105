/- Numbers of 64 bits that need no rounding: what is written of them reads as they are; products, sums, integers. -/
import Derived.Test.YtfmbchnejelpkaaFo
namespace Go.Proofs.Ytfmbchnejelpkaa.Ev
open Go Ieee
set_option maxRecDepth 100000

theorem cut_exact {s : Bool} {n drop kept : Nat} (h : n = kept * 2 ^ drop) (hn : 0 < n) : Toward.even.cut s n drop = kept := by
  have hk : 0 < kept := by
    rcases Nat.eq_zero_or_pos kept with e | e
    · rw [e, Nat.zero_mul] at h; omega
    · exact e
  have h1 : 2 ^ drop ≤ n := by rw [h]; exact Nat.le_mul_of_pos_left _ hk
  have h2 : n < 2 ^ (n.log2 + 1) := Nat.lt_log2_self
  have h3 : drop < n.log2 + 1 := (Nat.pow_lt_pow_iff_right (by decide)).1 (Nat.lt_of_le_of_lt h1 h2)
  have hp : 0 < 2 ^ drop := Nat.pow_pos (by decide)
  unfold Toward.cut
  rw [Nat.min_eq_left (by omega), Nat.shiftLeft_eq, Nat.one_mul]
  have e1 : n / 2 ^ drop = kept := by rw [h]; exact Nat.mul_div_cancel _ hp
  have e2 : n % 2 ^ drop = 0 := by rw [h]; exact Nat.mul_mod_left _ _
  have e3 : (2 ^ drop == 0) = false := by rw [beq_eq_false_iff_ne]; omega
  simp only [e1, e2, Nat.mul_zero, Nat.not_lt_zero, decide_false, e3, Bool.false_and, Bool.or_self, Bool.toNat_false, Nat.add_zero]

/-- A word that is not negative, and its number in units of the least. -/
def NN (b v : Nat) : Prop := b < 9223372036854775808 ∧ ∃ m i, double.read b = .number false m i ∧ m * 2 ^ (i + 1074).toNat = v

theorem pow_between {a b V : Nat} (h1 : 2 ^ a ≤ V) (h2 : V < 2 ^ (b + 1)) : a ≤ b := by
  have := (Nat.pow_lt_pow_iff_right (a := 2) (by decide)).1 (Nat.lt_of_le_of_lt h1 h2)
  omega

theorem read_word {e kept : Nat} (he : e ≤ 2000) (h1 : kept < 9007199254740992) (h2 : 0 < e → 4503599627370496 ≤ kept) :
    double.read (e * 4503599627370496 + kept) = .number false kept ((e : Int) - 1074) := by
  have e1 : double.leastPlace = -1074 := rfl
  have e2 : double.binade = 4503599627370496 := rfl
  have e3 : double.infRung = 9218868437227405312 := rfl
  have e4 : double.signWeight = 9223372036854775808 := rfl
  unfold Format.read
  simp only [e1, e2, e3, e4]
  have hlt : e * 4503599627370496 + kept < 9223372036854775808 := by omega
  have q1 : (e * 4503599627370496 + kept) / 9223372036854775808 = 0 := Nat.div_eq_of_lt hlt
  have q2 : (e * 4503599627370496 + kept) % 9223372036854775808 = e * 4503599627370496 + kept := Nat.mod_eq_of_lt hlt
  have q3 : ((e * 4503599627370496 + kept) / 9223372036854775808 % 2 == 1) = false := by rw [q1]; rfl
  rw [q2, q3]
  split
  · have : e = 0 := by omega
    subst this
    congr 1
    omega
  · rename_i hb
    rw [if_pos (by omega)]
    congr 1
    · omega
    · omega

theorem nearest_exact {mag : Nat} {P : Int} {q t S T : Nat} (hP : -4000 ≤ P) (hq : q < 9007199254740992) (ht : t ≤ 2000) (hS : S = (P + 4000).toNat) (hT : T = t + 2926) (hv : mag * 2 ^ S = q * 2 ^ T) :
    NN (double.nearest false mag P) (q * 2 ^ t) := by
  have e1 : double.leastPlace = -1074 := rfl
  have e2 : double.binade = 4503599627370496 := rfl
  have e3 : double.infRung = 9218868437227405312 := rfl
  have pp : ∀ k, 0 < 2 ^ k := fun k => Nat.pow_pos (by decide)
  rcases Nat.eq_zero_or_pos mag with hm | hm
  · subst hm
    have hq0 : q = 0 := by
      rw [Nat.zero_mul] at hv
      rcases Nat.eq_zero_or_pos q with h | h
      · exact h
      · have := Nat.mul_pos h (pp T); omega
    subst hq0
    have e0 : double.nearest false 0 P = 0 := rfl
    rw [e0, Nat.zero_mul]
    exact ⟨by decide, 0, -1074, by decide +kernel, Nat.zero_mul _⟩
  have hq0 : 0 < q := by
    rcases Nat.eq_zero_or_pos q with h | h
    · rw [h, Nat.zero_mul] at hv; have := Nat.mul_pos hm (pp S); rw [hv] at this; exact absurd this (Nat.lt_irrefl 0)
    · exact h
  have a1 : 2 ^ mag.log2 ≤ mag := Nat.log2_self_le (by omega)
  have a2 : mag < 2 ^ (mag.log2 + 1) := Nat.lt_log2_self
  have b1 : 2 ^ q.log2 ≤ q := Nat.log2_self_le (by omega)
  have b2 : q < 2 ^ (q.log2 + 1) := Nat.lt_log2_self
  have b3 : q.log2 ≤ 52 := pow_between (b := 52) b1 (by exact hq)
  have c1 : 2 ^ (mag.log2 + S) ≤ mag * 2 ^ S := by rw [Nat.pow_add]; exact Nat.mul_le_mul_right _ a1
  have c2 : mag * 2 ^ S < 2 ^ (mag.log2 + S + 1) := by
    rw [show mag.log2 + S + 1 = (mag.log2 + 1) + S by omega, Nat.pow_add]; exact Nat.mul_lt_mul_of_pos_right a2 (pp _)
  have d1 : 2 ^ (q.log2 + T) ≤ q * 2 ^ T := by rw [Nat.pow_add]; exact Nat.mul_le_mul_right _ b1
  have d2 : q * 2 ^ T < 2 ^ (q.log2 + T + 1) := by
    rw [show q.log2 + T + 1 = (q.log2 + 1) + T by omega, Nat.pow_add]; exact Nat.mul_lt_mul_of_pos_right b2 (pp _)
  rw [hv] at c1 c2
  have f1 := pow_between c1 d2
  have f2 := pow_between d1 c2
  generalize hL : mag.log2 = L at *
  generalize hl : q.log2 = l at *
  have hM : (L : Int) + P = l + t - 1074 := by omega
  let e : Nat := l + t - 52
  have he : e = l + t - 52 := rfl
  have het : e ≤ t := by omega
  have hlast : max (P + L - (52 : Nat)) (-1074) = (e : Int) - 1074 := by omega
  have hkl : q * 2 ^ (t - e) < 9007199254740992 := by
    have h1 : q * 2 ^ (t - e) < 2 ^ (l + 1) * 2 ^ (t - e) := Nat.mul_lt_mul_of_pos_right b2 (pp _)
    rw [← Nat.pow_add] at h1
    exact Nat.lt_of_lt_of_le h1 (show 2 ^ (l + 1 + (t - e)) ≤ 2 ^ 53 from Nat.pow_le_pow_right (by decide) (by omega))
  have hkg : 0 < e → 4503599627370496 ≤ q * 2 ^ (t - e) := fun h0 => by
    have h1 : 2 ^ l * 2 ^ (t - e) ≤ q * 2 ^ (t - e) := Nat.mul_le_mul_right _ b1
    rw [← Nat.pow_add] at h1
    exact Nat.le_trans (show 2 ^ 52 ≤ 2 ^ (l + (t - e)) from Nat.pow_le_pow_right (by decide) (by omega)) h1
  have hcut : Toward.even.cut false (mag <<< (P - ((e : Int) - 1074)).toNat) (((e : Int) - 1074) - P).toNat = q * 2 ^ (t - e) := by
    refine cut_exact ?_ (by rw [Nat.shiftLeft_eq]; exact Nat.mul_pos hm (pp _))
    rw [Nat.shiftLeft_eq]
    rcases Int.le_total ((e : Int) - 1074) P with hc | hc
    · rw [show (((e : Int) - 1074) - P).toNat = 0 by omega, Nat.pow_zero, Nat.mul_one]
      apply Nat.eq_of_mul_eq_mul_right (pp (e + 2926))
      rw [Nat.mul_assoc, Nat.mul_assoc, ← Nat.pow_add, ← Nat.pow_add]
      rw [show (P - ((e : Int) - 1074)).toNat + (e + 2926) = S by omega, hv]
      congr 2; omega
    · rw [show (P - ((e : Int) - 1074)).toNat = 0 by omega, Nat.pow_zero, Nat.mul_one]
      apply Nat.eq_of_mul_eq_mul_right (pp S)
      rw [hv, Nat.mul_assoc, Nat.mul_assoc, ← Nat.pow_add, ← Nat.pow_add]
      congr 2; omega
  have hw : double.nearest false mag P = e * 4503599627370496 + q * 2 ^ (t - e) := by
    unfold Format.nearest
    rw [if_neg (by omega)]
    simp only [e1, e2, e3, hL, show double.fractionBits = 52 from rfl, hlast, hcut]
    rw [show ((e : Int) - 1074 - -1074).toNat = e by omega]
    unfold Format.word
    simp only [Bool.false_eq_true, if_false]
    exact Nat.min_eq_left (by omega)
  refine ⟨by rw [hw]; omega, _, _, by rw [hw]; exact read_word (by omega) hkl hkg, ?_⟩
  rw [show ((e : Int) - 1074 + 1074).toNat = e by omega, Nat.mul_assoc, ← Nat.pow_add]
  congr 2; omega

theorem NN.fval {b v : Nat} (h : NN b v) : fval b = some (v : Int) := by
  obtain ⟨_, m, i, h1, h2⟩ := h
  unfold Ev.fval
  rw [h1]; simp only [dval]; rw [signed_false, h2]
theorem NN.place {b v : Nat} (h : NN b v) : ∃ m i, double.read b = .number false m i ∧ m * 2 ^ (i + 1074).toNat = v ∧ -1074 ≤ i := by
  obtain ⟨_, m, i, h1, h2⟩ := h
  exact ⟨m, i, h1, h2, (read_num h1).1⟩

theorem mul_exact {a b x y q t : Nat} (ha : NN a x) (hb : NN b y) (hq : q < 9007199254740992) (ht : t ≤ 2000) (h : x * y = q * 2 ^ t * U) : ∃ r, double.mul a b = some r ∧ NN r (q * 2 ^ t) := by
  obtain ⟨m, i, h1, rfl, h3⟩ := ha.place
  obtain ⟨n, j, g1, rfl, g3⟩ := hb.place
  refine ⟨double.nearest false (m * n) (i + j), ?_, nearest_exact (by omega) hq ht rfl rfl ?_⟩
  · unfold Format.mul; rw [h1, g1]; rfl
  · have e : (i + j + 4000).toNat = (i + 1074).toNat + (j + 1074).toNat + 1852 := by omega
    rw [show t + 2926 = t + 1074 + 1852 by omega]
    generalize 1852 = Z at e ⊢
    rw [e, Nat.pow_add, Nat.pow_add, Nat.pow_add 2 (t + 1074) Z, U_pow t, ← Nat.mul_assoc q, ← Nat.mul_assoc q, ← h]
    generalize 2 ^ (i + 1074).toNat = A
    generalize 2 ^ (j + 1074).toNat = B
    generalize 2 ^ Z = C
    rw [← Nat.mul_assoc, Nat.mul_mul_mul_comm m A n B, Nat.mul_assoc (m * n)]

theorem add_exact {a b x y q t : Nat} (ha : NN a x) (hb : NN b y) (hq : q < 9007199254740992) (ht : t ≤ 2000) (h : x + y = q * 2 ^ t) : ∃ r, double.add a b = some r ∧ NN r (q * 2 ^ t) := by
  obtain ⟨m, i, h1, rfl, h3⟩ := ha.place
  obtain ⟨n, j, g1, rfl, g3⟩ := hb.place
  refine ⟨double.nearest false (m * 2 ^ (i - min i j).toNat + n * 2 ^ (j - min i j).toNat) (min i j), ?_, nearest_exact (by omega) hq ht rfl rfl ?_⟩
  · unfold Format.add; rw [h1, g1]
    simp only [Datum.sum, signed_false, Option.map_some, Format.write]
    rw [← Int.natCast_add, Int.natAbs_natCast]
    generalize m * 2 ^ (i - min i j).toNat + n * 2 ^ (j - min i j).toNat = X
    have e0 : (if (X : Int) = 0 then false && false else decide ((X : Int) < 0)) = false := by
      split
      · rfl
      · exact decide_eq_false (by omega)
    rw [e0]
  · have e1 : (i + 1074).toNat + 2926 = (i - min i j).toNat + (min i j + 4000).toNat := by omega
    have e2 : (j + 1074).toNat + 2926 = (j - min i j).toNat + (min i j + 4000).toNat := by omega
    rw [Nat.add_mul, Nat.mul_assoc, Nat.mul_assoc, ← Nat.pow_add, ← Nat.pow_add, ← e1, ← e2, Nat.pow_add, Nat.pow_add, Nat.pow_add 2 t, ← Nat.mul_assoc, ← Nat.mul_assoc, ← Nat.mul_assoc, ← Nat.add_mul, h]

theorem int_exact' {n k : Nat} (hn : n < 9007199254740992) (hk : k = 1074) : NN (FloatKind.f64.nearest (n : Int)) (n * U) := by
  have e : FloatKind.f64.nearest (n : Int) = double.nearest false n 0 := by
    show double.nearest (decide ((n : Int) < 0)) (n : Int).natAbs 0 = _
    rw [Int.natAbs_natCast, show decide ((n : Int) < 0) = false by simp]
  rw [e, U_eq hk]
  exact nearest_exact (S := 4000) (T := 4000) (by decide) hn (by omega) (by decide) (by omega) rfl
theorem int_exact {n : Nat} (hn : n < 9007199254740992) : NN (FloatKind.f64.nearest (n : Int)) (n * U) := int_exact' hn rfl
theorem NN.mk' {b c a k t : Nat} {i : Int} (hb : b < 9223372036854775808) (hr : double.read b = .number false (c * 2 ^ a) i) (hk : (i + 1074).toNat = k) (h : a + k = t) : NN b (c * 2 ^ t) :=
  ⟨hb, _, _, hr, by rw [hk, ← h, Nat.pow_add, Nat.mul_assoc]⟩
theorem NN.mkU {b c a k : Nat} {i : Int} (hb : b < 9223372036854775808) (hr : double.read b = .number false (c * 2 ^ a) i) (hk : (i + 1074).toNat = k) (h : a + k = 1074) : NN b (c * U) := by
  rw [U_eq h]; exact NN.mk' hb hr hk rfl
end Go.Proofs.Ytfmbchnejelpkaa.Ev
