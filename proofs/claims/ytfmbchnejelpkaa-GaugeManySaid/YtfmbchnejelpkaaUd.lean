/- Merging in place: plain laws. -/
import Derived.Test.YtfmbchnejelpkaaUc
namespace Go.Proofs.Ytfmbchnejelpkaa.Ev
open Go
attribute [local congr] ob_congr sq_congr cd_congr ite_congr1 iter_congr it1_congr jumps_congr
set_option maxRecDepth 100000
set_option linter.unusedSimpArgs false
set_option linter.unusedVariables false
/-- The number at a brought to i - 1. -/
def upT (x : Nat → Nat) (a k : Nat) : Nat → Nat := fun p => if a ≤ p ∧ p < k then x (p + 1) else if p = k then x a else x p
theorem upT_zero (x : Nat → Nat) (a : Nat) : upT x a a = x := funext fun p => by
  unfold upT; rw [if_neg (by omega)]; split
  · rename_i h; rw [h]
  · rfl
theorem upT_step (x : Nat → Nat) {a k : Nat} (h : a ≤ k) : swp (upT x a k) k (k + 1) = upT x a (k + 1) := funext fun p => by
  rw [swp_at]
  unfold upT
  repeat' split
  all_goals first | rfl | (exfalso; omega) | (congr 1; omega)
theorem upT_srt {x : Nat → Nat} {a i b : Nat} (hs : Srt x (a + 1) b) (h1 : a + 1 ≤ i) (h2 : i ≤ b) (hl : i = a + 1 ∨ ord (x (i - 1)) (x a) < 0) (hr : i = b ∨ ¬ ord (x i) (x a) < 0) : Srt (upT x a (i - 1)) a b := by
  have e := ord_swap (x a) (x i)
  refine srt_step fun k k1 k2 => ?_
  unfold upT
  by_cases c1 : k + 1 < i - 1
  · rw [if_pos (by omega), if_pos (by omega)]; exact hs _ _ (by omega) (by omega) (by omega)
  · by_cases c2 : k + 1 = i - 1
    · rw [if_pos (by omega), if_neg (by omega), if_pos c2]
      rcases hl with hl | hl
      · omega
      · rw [c2]; omega
    · by_cases c3 : k = i - 1
      · rw [if_neg (by omega), if_pos c3, if_neg (by omega), if_neg (by omega)]
        rcases hr with hr | hr
        · omega
        · rw [show k + 1 = i by omega]; omega
      · rw [if_neg (by omega), if_neg c3, if_neg (by omega), if_neg (by omega)]; exact hs _ _ (by omega) (by omega) (by omega)
/-- The number at m brought down to k. -/
def dnT (x : Nat → Nat) (m k : Nat) : Nat → Nat := fun p => if k < p ∧ p ≤ m then x (p - 1) else if p = k then x m else x p
theorem dnT_zero (x : Nat → Nat) (m : Nat) : dnT x m m = x := funext fun p => by
  unfold dnT; rw [if_neg (by omega)]; split
  · rename_i h; rw [h]
  · rfl
theorem dnT_step (x : Nat → Nat) {m k : Nat} (h : k + 1 ≤ m) : swp (dnT x m (k + 1)) (k + 1) k = dnT x m k := funext fun p => by
  rw [swp_at]
  unfold dnT
  repeat' split
  all_goals first | rfl | (exfalso; omega) | (congr 1; omega)
theorem dnT_srt {x : Nat → Nat} {a i m : Nat} (hs : Srt x a m) (h1 : a ≤ i) (h2 : i ≤ m) (hl : i = a ∨ ¬ ord (x m) (x (i - 1)) < 0) (hr : i = m ∨ ord (x m) (x i) < 0) : Srt (dnT x m i) a (m + 1) := by
  have e := ord_swap (x m) (x (i - 1))
  refine srt_step fun k k1 k2 => ?_
  unfold dnT
  by_cases c1 : k + 1 < i
  · rw [if_neg (by omega), if_neg (by omega), if_neg (by omega), if_neg (by omega)]; exact hs _ _ (by omega) (by omega) (by omega)
  · by_cases c2 : k + 1 = i
    · rw [if_neg (by omega), if_neg (by omega), if_neg (by omega), if_pos c2]
      rcases hl with hl | hl
      · omega
      · rw [show k = i - 1 by omega]; omega
    · by_cases c3 : k = i
      · rw [if_neg (by omega), if_pos c3, if_pos (by omega), Nat.add_sub_cancel]
        rcases hr with hr | hr
        · omega
        · rw [c3]; omega
      · rw [if_pos (by omega), if_pos (by omega), Nat.add_sub_cancel]; exact hs _ _ (by omega) (by omega) (by omega)
/-- Behind the change of places: two parts in each half, and no one of the right half ahead of one of the left. -/
theorem rot_halves {x : Nat → Nat} {a m b s e mid : Nat} (h1 : Srt x a m) (h2 : Srt x m b) (a1 : a ≤ s) (a2 : s ≤ m) (a3 : m ≤ e) (a4 : e ≤ b) (hmid : s + e = mid + m)
    (f1 : a < s → e < b → ord (x (s - 1)) (x e) ≤ 0) (f2 : s < m → m < e → ord (x (e - 1)) (x s) ≤ 0) :
    Srt (rot x s m e) a s ∧ Srt (rot x s m e) s mid ∧ Srt (rot x s m e) mid e ∧ Srt (rot x s m e) e b ∧ ∀ i j, a ≤ i → i < mid → mid ≤ j → j < b → ord (rot x s m e i) (rot x s m e j) ≤ 0 := by
  have r1 : ∀ k, k < s → rot x s m e k = x k := fun k hk => by unfold rot; rw [if_neg (by omega), if_neg (by omega)]
  have r2 : ∀ k, s ≤ k → k < mid → rot x s m e k = x (k + (m - s)) := fun k h1 h2 => by unfold rot; rw [if_pos (by omega)]
  have r3 : ∀ k, mid ≤ k → k < e → rot x s m e k = x (k - (e - m)) := fun k h1 h2 => by unfold rot; rw [if_neg (by omega), if_pos (by omega)]
  have r4 : ∀ k, e ≤ k → rot x s m e k = x k := fun k hk => by unfold rot; rw [if_neg (by omega), if_neg (by omega)]
  refine ⟨fun i j p1 p2 p3 => ?_, fun i j p1 p2 p3 => ?_, fun i j p1 p2 p3 => ?_, fun i j p1 p2 p3 => ?_, fun i j p1 p2 p3 p4 => ?_⟩
  · rw [r1 i (by omega), r1 j p3]; exact h1 i j p1 p2 (by omega)
  · rw [r2 i p1 (by omega), r2 j (by omega) p3]; exact h2 _ _ (by omega) (by omega) (by omega)
  · rw [r3 i p1 (by omega), r3 j (by omega) p3]; exact h1 _ _ (by omega) (by omega) (by omega)
  · rw [r4 i p1, r4 j (by omega)]; exact h2 i j (by omega) p2 p3
  · by_cases ci : i < s
    · rw [r1 i ci]
      by_cases cj : j < e
      · rw [r3 j p3 cj]; exact h1 _ _ p1 (by omega) (by omega)
      · rw [r4 j (by omega)]
        exact ord_trans (ord_trans (h1 i (s - 1) p1 (by omega) (by omega)) (f1 (by omega) (by omega))) (h2 e j a3 (by omega) p4)
    · rw [r2 i (by omega) p2]
      by_cases cj : j < e
      · rw [r3 j p3 cj]
        exact ord_trans (ord_trans (h2 _ (e - 1) (by omega) (by omega) (by omega)) (f2 (by omega) (by omega))) (h1 s _ a1 (by omega) (by omega))
      · rw [r4 j (by omega)]; exact h2 _ _ (by omega) (by omega) p4
/-- Both halves put in order. -/
theorem halves_join {N a mid b : Nat} {y z u : Nat → Nat} (hy : ∀ i j, a ≤ i → i < mid → mid ≤ j → j < b → ord (y i) (y j) ≤ 0) (m1 : Mv N a mid y z) (s1 : Srt z a mid) (m2 : Mv N mid b z u) (s2 : Srt u mid b) : Srt u a b := by
  refine srt_join (mid := mid) (srt_congr (fun k k1 k2 => m2.out k (by omega)) s1) s2 fun i j p1 p2 p3 p4 => ?_
  rw [m2.out i (by omega)]
  obtain ⟨i', q1, q2, q3⟩ := m1.mem i p1 p2
  obtain ⟨j', t1, t2, t3⟩ := m2.mem j p3 p4
  rw [q3, t3, m1.out j' (by omega)]
  exact hy i' j' q1 q2 t1 t2
theorem half (i j : Nat) (h : i + j < 1000000) : IntKind.u64.wrap (((i + j : Nat) : Int)) = ((i + j : Nat) : Int) ∧ Int.fdiv ((i + j : Nat) : Int) (2 ^ (min 1 IntKind.u64.bits)) = (((i + j) / 2 : Nat) : Int) ∧ IntKind.i64.wrap ((((i + j) / 2 : Nat) : Int)) = (((i + j) / 2 : Nat) : Int) := by
  refine ⟨IntWalk.u64_in _ (by omega), ?_, IntWalk.i64_in _ (by omega)⟩
  rw [show min 1 IntKind.u64.bits = 1 from rfl, Int.fdiv_eq_ediv_of_nonneg _ (by decide)]
  show ((i + j : Nat) : Int) / 2 = _
  omega
end Go.Proofs.Ytfmbchnejelpkaa.Ev
