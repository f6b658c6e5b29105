/- fingerpostref04.Sorted: every number is put in behind all that are not behind it. -/
import Derived.Test.YtfmbchnejelpkaaUh
import Derived.Test.YtfmbchnejelpkaaEvH
import Derived.Test.YtfmbchnejelpkaaFacts
namespace Go.Proofs.Ytfmbchnejelpkaa.Ev
open Go
attribute [local congr] ob_congr sq_congr cd_congr ite_congr1 iter_congr it1_congr jumps_congr
set_option maxRecDepth 100000
set_option linter.unusedSimpArgs false
set_option linter.unusedVariables false
open Go.RowKit
theorem rsignord (a b : Nat) (h1 : nan a = false) (h2 : nan b = false) (h3 : flt a b = false) (h4 : flt b a = false) : feq a b = true := by
  rw [nan_val0] at h1 h2
  rw [flt_val] at h3 h4
  rw [feq_val]
  cases ha : fval a with
  | none => rw [ha] at h1; cases h1
  | some p =>
    cases hb : fval b with
    | none => rw [hb] at h2; cases h2
    | some q =>
      rw [ha, hb] at h3 h4
      simp only [olt, decide_eq_false_iff_not] at h3 h4
      simp only [oeq, decide_eq_true_iff]; omega
theorem rgt_ne (a b : Nat) (h4 : flt b a = true) : feq a b = false := by
  rw [flt_val] at h4
  rw [feq_val]
  cases ha : fval a with
  | none => rfl
  | some p =>
    cases hb : fval b with
    | none => rfl
    | some q =>
      rw [ha, hb] at h4
      simp only [olt, decide_eq_true_iff] at h4
      simp only [oeq, decide_eq_false_iff_not]; omega
theorem rord_ev (k a b : Nat) : evF Try.prog env xf (k+3) 30 [.d (dF a), .d (dF b)] = some (.d (.s (.int .i64 (ord a b)))) := by
  rw [evF_eq Try.func30 (show Try.f30.body = some _ from rfl) rfl rfl rfl (by show 2 ≤ 54; decide)]
  rcases Bool.eq_false_or_eq_true (nan a) with h1 | h1
  · rcases Bool.eq_false_or_eq_true (nan b) with h2 | h2
    · simp (decide := true) only [isnan_ev, ord, h1, h2, Try.f30, rid, ↓sBp, sBq, List.all_cons, List.all_nil, List.map_cons, List.map_nil, D.shape, Sh.sub, Sh.size, List.getElem?_cons_zero, List.getElem?_cons_succ, Option.bind_some, Option.bind_none, Option.getD_some, Option.getD_none, V.keysIn, V.kill, V.has, decide_eq_true_eq, beq_iff_eq, bne_iff_ne, ne_eq, Bool.not_eq_true', Bool.and_true, Bool.and_self, Bool.true_and, if_true, if_false, reduceIte, Bool.false_eq_true, decide_true, decide_false, beq_self_eq_true, Bool.not_true, Bool.not_false, true_and, and_true, and_self, List.append_assoc, List.nil_append, List.cons_append, Int.toNat_natCast, ck, Int.cast_ofNat_Int, Int.reduceToNat, bne_self_eq_false, Bool.or_false, Bool.false_or, Bool.false_and, Bool.and_false, Bool.or_true, Bool.true_or]
    · simp (decide := true) only [isnan_ev, ord, h1, h2, Try.f30, rid, ↓sBp, sBq, List.all_cons, List.all_nil, List.map_cons, List.map_nil, D.shape, Sh.sub, Sh.size, List.getElem?_cons_zero, List.getElem?_cons_succ, Option.bind_some, Option.bind_none, Option.getD_some, Option.getD_none, V.keysIn, V.kill, V.has, decide_eq_true_eq, beq_iff_eq, bne_iff_ne, ne_eq, Bool.not_eq_true', Bool.and_true, Bool.and_self, Bool.true_and, if_true, if_false, reduceIte, Bool.false_eq_true, decide_true, decide_false, beq_self_eq_true, Bool.not_true, Bool.not_false, true_and, and_true, and_self, List.append_assoc, List.nil_append, List.cons_append, Int.toNat_natCast, ck, Int.cast_ofNat_Int, Int.reduceToNat, bne_self_eq_false, Bool.or_false, Bool.false_or, Bool.false_and, Bool.and_false, Bool.or_true, Bool.true_or]
  · rcases Bool.eq_false_or_eq_true (nan b) with h2 | h2
    · simp (decide := true) only [isnan_ev, ord, h1, h2, Try.f30, rid, ↓sBp, sBq, List.all_cons, List.all_nil, List.map_cons, List.map_nil, D.shape, Sh.sub, Sh.size, List.getElem?_cons_zero, List.getElem?_cons_succ, Option.bind_some, Option.bind_none, Option.getD_some, Option.getD_none, V.keysIn, V.kill, V.has, decide_eq_true_eq, beq_iff_eq, bne_iff_ne, ne_eq, Bool.not_eq_true', Bool.and_true, Bool.and_self, Bool.true_and, if_true, if_false, reduceIte, Bool.false_eq_true, decide_true, decide_false, beq_self_eq_true, Bool.not_true, Bool.not_false, true_and, and_true, and_self, List.append_assoc, List.nil_append, List.cons_append, Int.toNat_natCast, ck, Int.cast_ofNat_Int, Int.reduceToNat, bne_self_eq_false, Bool.or_false, Bool.false_or, Bool.false_and, Bool.and_false, Bool.or_true, Bool.true_or]
    · rcases Bool.eq_false_or_eq_true (flt a b) with h3 | h3
      · simp (decide := true) only [isnan_ev, ord, h1, h2, h3, Try.f30, rid, ↓sBp, sBq, List.all_cons, List.all_nil, List.map_cons, List.map_nil, D.shape, Sh.sub, Sh.size, List.getElem?_cons_zero, List.getElem?_cons_succ, Option.bind_some, Option.bind_none, Option.getD_some, Option.getD_none, V.keysIn, V.kill, V.has, decide_eq_true_eq, beq_iff_eq, bne_iff_ne, ne_eq, Bool.not_eq_true', Bool.and_true, Bool.and_self, Bool.true_and, if_true, if_false, reduceIte, Bool.false_eq_true, decide_true, decide_false, beq_self_eq_true, Bool.not_true, Bool.not_false, true_and, and_true, and_self, List.append_assoc, List.nil_append, List.cons_append, Int.toNat_natCast, ck, Int.cast_ofNat_Int, Int.reduceToNat, bne_self_eq_false, Bool.or_false, Bool.false_or, Bool.false_and, Bool.and_false, Bool.or_true, Bool.true_or]
      · rcases Bool.eq_false_or_eq_true (flt b a) with h4 | h4
        · have h7 := rgt_ne a b h4
          simp (decide := true) only [isnan_ev, ord, h1, h2, h3, h4, h7, Try.f30, rid, ↓sBp, sBq, List.all_cons, List.all_nil, List.map_cons, List.map_nil, D.shape, Sh.sub, Sh.size, List.getElem?_cons_zero, List.getElem?_cons_succ, Option.bind_some, Option.bind_none, Option.getD_some, Option.getD_none, V.keysIn, V.kill, V.has, decide_eq_true_eq, beq_iff_eq, bne_iff_ne, ne_eq, Bool.not_eq_true', Bool.and_true, Bool.and_self, Bool.true_and, if_true, if_false, reduceIte, Bool.false_eq_true, decide_true, decide_false, beq_self_eq_true, Bool.not_true, Bool.not_false, true_and, and_true, and_self, List.append_assoc, List.nil_append, List.cons_append, Int.toNat_natCast, ck, Int.cast_ofNat_Int, Int.reduceToNat, bne_self_eq_false, Bool.or_false, Bool.false_or, Bool.false_and, Bool.and_false, Bool.or_true, Bool.true_or]
        · have h7 := rsignord a b h1 h2 h3 h4
          rcases Bool.eq_false_or_eq_true (sgn a) with h5 | h5 <;> rcases Bool.eq_false_or_eq_true (sgn b) with h6 | h6
          · simp (decide := true) only [isnan_ev, signbit_ev, ord, h1, h2, h3, h4, h5, h6, h7, Try.f30, rid, ↓sBp, sBq, List.all_cons, List.all_nil, List.map_cons, List.map_nil, D.shape, Sh.sub, Sh.size, List.getElem?_cons_zero, List.getElem?_cons_succ, Option.bind_some, Option.bind_none, Option.getD_some, Option.getD_none, V.keysIn, V.kill, V.has, decide_eq_true_eq, beq_iff_eq, bne_iff_ne, ne_eq, Bool.not_eq_true', Bool.and_true, Bool.and_self, Bool.true_and, if_true, if_false, reduceIte, Bool.false_eq_true, decide_true, decide_false, beq_self_eq_true, Bool.not_true, Bool.not_false, true_and, and_true, and_self, List.append_assoc, List.nil_append, List.cons_append, Int.toNat_natCast, ck, Int.cast_ofNat_Int, Int.reduceToNat, bne_self_eq_false, Bool.or_false, Bool.false_or, Bool.false_and, Bool.and_false, Bool.or_true, Bool.true_or]
          · simp (decide := true) only [isnan_ev, signbit_ev, ord, h1, h2, h3, h4, h5, h6, h7, Try.f30, rid, ↓sBp, sBq, List.all_cons, List.all_nil, List.map_cons, List.map_nil, D.shape, Sh.sub, Sh.size, List.getElem?_cons_zero, List.getElem?_cons_succ, Option.bind_some, Option.bind_none, Option.getD_some, Option.getD_none, V.keysIn, V.kill, V.has, decide_eq_true_eq, beq_iff_eq, bne_iff_ne, ne_eq, Bool.not_eq_true', Bool.and_true, Bool.and_self, Bool.true_and, if_true, if_false, reduceIte, Bool.false_eq_true, decide_true, decide_false, beq_self_eq_true, Bool.not_true, Bool.not_false, true_and, and_true, and_self, List.append_assoc, List.nil_append, List.cons_append, Int.toNat_natCast, ck, Int.cast_ofNat_Int, Int.reduceToNat, bne_self_eq_false, Bool.or_false, Bool.false_or, Bool.false_and, Bool.and_false, Bool.or_true, Bool.true_or]
          · simp (decide := true) only [isnan_ev, signbit_ev, ord, h1, h2, h3, h4, h5, h6, h7, Try.f30, rid, ↓sBp, sBq, List.all_cons, List.all_nil, List.map_cons, List.map_nil, D.shape, Sh.sub, Sh.size, List.getElem?_cons_zero, List.getElem?_cons_succ, Option.bind_some, Option.bind_none, Option.getD_some, Option.getD_none, V.keysIn, V.kill, V.has, decide_eq_true_eq, beq_iff_eq, bne_iff_ne, ne_eq, Bool.not_eq_true', Bool.and_true, Bool.and_self, Bool.true_and, if_true, if_false, reduceIte, Bool.false_eq_true, decide_true, decide_false, beq_self_eq_true, Bool.not_true, Bool.not_false, true_and, and_true, and_self, List.append_assoc, List.nil_append, List.cons_append, Int.toNat_natCast, ck, Int.cast_ofNat_Int, Int.reduceToNat, bne_self_eq_false, Bool.or_false, Bool.false_or, Bool.false_and, Bool.and_false, Bool.or_true, Bool.true_or]
          · simp (decide := true) only [isnan_ev, signbit_ev, ord, h1, h2, h3, h4, h5, h6, h7, Try.f30, rid, ↓sBp, sBq, List.all_cons, List.all_nil, List.map_cons, List.map_nil, D.shape, Sh.sub, Sh.size, List.getElem?_cons_zero, List.getElem?_cons_succ, Option.bind_some, Option.bind_none, Option.getD_some, Option.getD_none, V.keysIn, V.kill, V.has, decide_eq_true_eq, beq_iff_eq, bne_iff_ne, ne_eq, Bool.not_eq_true', Bool.and_true, Bool.and_self, Bool.true_and, if_true, if_false, reduceIte, Bool.false_eq_true, decide_true, decide_false, beq_self_eq_true, Bool.not_true, Bool.not_false, true_and, and_true, and_self, List.append_assoc, List.nil_append, List.cons_append, Int.toNat_natCast, ck, Int.cast_ofNat_Int, Int.reduceToNat, bne_self_eq_false, Bool.or_false, Bool.false_or, Bool.false_and, Bool.and_false, Bool.or_true, Bool.true_or]
theorem rfine_ev (k b : Nat) : evF Try.prog env xf (k+3) 32 [.d (dF b)] = some (.d (.s (.bool (fine b)))) := by
  rw [evF_eq Try.func32 (show Try.f32.body = some _ from rfl) rfl rfl rfl (by show 1 ≤ 14; decide)]
  rcases Bool.eq_false_or_eq_true (fle 0 b) with h1 | h1
  · rcases Bool.eq_false_or_eq_true (fle b 4741671816366391296) with h2 | h2
    · simp (decide := true) only [signbit_ev, fine, h1, h2, Try.f32, rid, ↓sBp, sBq, List.all_cons, List.all_nil, List.map_cons, List.map_nil, D.shape, Sh.sub, Sh.size, List.getElem?_cons_zero, List.getElem?_cons_succ, Option.bind_some, Option.bind_none, Option.getD_some, Option.getD_none, V.keysIn, V.kill, V.has, decide_eq_true_eq, beq_iff_eq, bne_iff_ne, ne_eq, Bool.not_eq_true', Bool.and_true, Bool.and_self, Bool.true_and, if_true, if_false, reduceIte, Bool.false_eq_true, decide_true, decide_false, beq_self_eq_true, Bool.not_true, Bool.not_false, true_and, and_true, and_self, List.append_assoc, List.nil_append, List.cons_append, Int.toNat_natCast, ck, Int.cast_ofNat_Int, Int.reduceToNat, bne_self_eq_false, Bool.or_false, Bool.false_or, Bool.false_and, Bool.and_false, Bool.or_true, Bool.true_or]
    · simp (decide := true) only [signbit_ev, fine, h1, h2, Try.f32, rid, ↓sBp, sBq, List.all_cons, List.all_nil, List.map_cons, List.map_nil, D.shape, Sh.sub, Sh.size, List.getElem?_cons_zero, List.getElem?_cons_succ, Option.bind_some, Option.bind_none, Option.getD_some, Option.getD_none, V.keysIn, V.kill, V.has, decide_eq_true_eq, beq_iff_eq, bne_iff_ne, ne_eq, Bool.not_eq_true', Bool.and_true, Bool.and_self, Bool.true_and, if_true, if_false, reduceIte, Bool.false_eq_true, decide_true, decide_false, beq_self_eq_true, Bool.not_true, Bool.not_false, true_and, and_true, and_self, List.append_assoc, List.nil_append, List.cons_append, Int.toNat_natCast, ck, Int.cast_ofNat_Int, Int.reduceToNat, bne_self_eq_false, Bool.or_false, Bool.false_or, Bool.false_and, Bool.and_false, Bool.or_true, Bool.true_or]
  · simp (decide := true) only [signbit_ev, fine, h1, Try.f32, rid, ↓sBp, sBq, List.all_cons, List.all_nil, List.map_cons, List.map_nil, D.shape, Sh.sub, Sh.size, List.getElem?_cons_zero, List.getElem?_cons_succ, Option.bind_some, Option.bind_none, Option.getD_some, Option.getD_none, V.keysIn, V.kill, V.has, decide_eq_true_eq, beq_iff_eq, bne_iff_ne, ne_eq, Bool.not_eq_true', Bool.and_true, Bool.and_self, Bool.true_and, if_true, if_false, reduceIte, Bool.false_eq_true, decide_true, decide_false, beq_self_eq_true, Bool.not_true, Bool.not_false, true_and, and_true, and_self, List.append_assoc, List.nil_append, List.cons_append, Int.toNat_natCast, ck, Int.cast_ofNat_Int, Int.reduceToNat, bne_self_eq_false, Bool.or_false, Bool.false_or, Bool.false_and, Bool.and_false, Bool.or_true, Bool.true_or]
/-- Where a number goes in. -/
def atS (x : Nat) (l : List Nat) : Nat → Nat
  | 0 => 0
  | k + 1 => if ord x (l.getD k 0) < 0 then atS x l k else k + 1
theorem atS_le (x : Nat) (l : List Nat) : ∀ k, atS x l k ≤ k
  | 0 => Nat.le_refl _
  | k + 1 => by unfold atS; split; exact Nat.le_succ_of_le (atS_le x l k); exact Nat.le_refl _
theorem atS_up (x : Nat) (l : List Nat) : ∀ k q, atS x l k ≤ q → q < k → ord x (l.getD q 0) < 0
  | 0, q, _, h => by omega
  | k + 1, q, h1, h2 => by
    unfold atS at h1
    split at h1
    · rename_i h
      by_cases e : q = k
      · rw [e]; exact h
      · exact atS_up x l k q h1 (by omega)
    · omega
theorem atS_at (x : Nat) (l : List Nat) : ∀ k, 0 < atS x l k → ¬ ord x (l.getD (atS x l k - 1) 0) < 0
  | 0, h => by simp [atS] at h
  | k + 1, h => by
    unfold atS at h ⊢
    split
    · rename_i hc
      rw [if_pos hc] at h
      exact atS_at x l k h
    · rename_i hc
      exact hc
def insS (x : Nat) (l : List Nat) : List Nat := l.take (atS x l l.length) ++ x :: l.drop (atS x l l.length)
def rS (l : List Nat) : Nat → List Nat
  | 0 => []
  | i + 1 => insS (l.getD i 0) (rS l i)
theorem insS_perm (x : Nat) (l : List Nat) : (insS x l).Perm (x :: l) := by
  unfold insS
  refine List.perm_middle.trans ?_
  rw [List.take_append_drop]
theorem rS_perm (l : List Nat) : ∀ i, i ≤ l.length → (rS l i).Perm (l.take i)
  | 0, _ => by rw [List.take_zero]; exact .nil
  | i + 1, h => by
    have e : l.take (i + 1) = l.take i ++ [l.getD i 0] := by
      rw [List.take_add_one]; simp [List.getD, List.getElem?_eq_getElem (show i < l.length by omega)]
    rw [e]
    exact (insS_perm _ _).trans (((rS_perm l i (by omega)).cons _).trans (List.perm_append_singleton _ _).symm)
theorem rS_len (l : List Nat) {i : Nat} (h : i ≤ l.length) : (rS l i).length = i := by rw [(rS_perm l i h).length_eq, List.length_take]; omega
theorem insS_srt {x : Nat} {l : List Nat} (h : SrtL l) : SrtL (insS x l) := by
  have hle := atS_le x l l.length
  have hup := atS_up x l l.length
  have hat := atS_at x l l.length
  unfold insS
  generalize atS x l l.length = k at *
  have g1 : ∀ i, i < k → (l.take k ++ x :: l.drop k).getD i 0 = l.getD i 0 := fun i hi => by
    simp only [List.getD]; rw [List.getElem?_append_left (by rw [List.length_take]; omega), List.getElem?_take, if_pos hi]
  have g2 : (l.take k ++ x :: l.drop k).getD k 0 = x := by
    simp only [List.getD]; rw [List.getElem?_append_right (by rw [List.length_take]; omega), List.length_take, Nat.min_eq_left hle, Nat.sub_self]; rfl
  have g3 : ∀ i, k < i → (l.take k ++ x :: l.drop k).getD i 0 = l.getD (i - 1) 0 := fun i hi => by
    simp only [List.getD]; rw [List.getElem?_append_right (by rw [List.length_take]; omega), List.length_take, Nat.min_eq_left hle]
    obtain ⟨m, rfl⟩ : ∃ m, i = k + (m + 1) := ⟨i - k - 1, by omega⟩
    rw [show k + (m + 1) - k = m + 1 by omega, List.getElem?_cons_succ, List.getElem?_drop, show k + (m + 1) - 1 = k + m by omega]
  have hlen : (l.take k ++ x :: l.drop k).length = l.length + 1 := by simp; omega
  intro i j h1 h2
  rw [hlen] at h2
  by_cases ci : i < k
  · rw [g1 i ci]
    by_cases cj : j < k
    · rw [g1 j cj]; exact h i j h1 (by omega)
    · have e : ord (l.getD (k - 1) 0) x ≤ 0 := by
        have := hat (by omega)
        have := ord_swap x (l.getD (k - 1) 0)
        omega
      have e2 := ord_trans (h i (k - 1) (by omega) (by omega)) e
      by_cases ck : j = k
      · rw [ck, g2]; exact e2
      · rw [g3 j (by omega)]
        exact ord_trans e2 (Int.le_of_lt (hup (j - 1) (by omega) (by omega)))
  · by_cases ck : i = k
    · rw [ck, g2]
      by_cases cj : j = k
      · rw [cj, g2, ord_self]; omega
      · rw [g3 j (by omega)]; exact Int.le_of_lt (hup (j - 1) (by omega) (by omega))
    · rw [g3 i (by omega), g3 j (by omega)]; exact h _ _ (by omega) (by omega)
theorem rS_srt (l : List Nat) : ∀ i, SrtL (rS l i)
  | 0 => fun i j _ h => absurd h (by simp [rS])
  | i + 1 => insS_srt (rS_srt l i)
end Go.Proofs.Ytfmbchnejelpkaa.Ev
