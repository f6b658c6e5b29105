/- Sums, plainly; how many nodes a set has, as a sum. -/
import Derived.Test.YthpccjgpbcginaaCt
namespace Go.Proofs.Ythpccjgpbcginaa.Ev
open Go
set_option linter.unusedSimpArgs false
set_option linter.unusedVariables false
def sumN (f : Nat → Int) (n : Nat) : Int := upto (fun k s => s + f k) 0 n
theorem sumN_succ (f : Nat → Int) (n : Nat) : sumN f (n + 1) = sumN f n + f n := rfl
theorem sumN_congr {f g : Nat → Int} : ∀ n, (∀ k, k < n → f k = g k) → sumN f n = sumN g n
  | 0, _ => rfl
  | n + 1, h => by rw [sumN_succ, sumN_succ, sumN_congr n (fun k hk => h k (by omega)), h n (by omega)]
theorem sumN_add (f g : Nat → Int) : ∀ n, sumN (fun k => f k + g k) n = sumN f n + sumN g n
  | 0 => rfl
  | n + 1 => by rw [sumN_succ, sumN_succ, sumN_succ, sumN_add f g n]; omega
theorem sumN_zero : ∀ n, sumN (fun _ => 0) n = 0
  | 0 => rfl
  | n + 1 => by rw [sumN_succ, sumN_zero n]; rfl
theorem sumN_swap (f : Nat → Nat → Int) (m : Nat) : ∀ n, sumN (fun i => sumN (f i) m) n = sumN (fun j => sumN (fun i => f i j) n) m
  | 0 => (sumN_zero m).symm
  | n + 1 => by
    rw [sumN_succ, sumN_swap f m n, ← sumN_add]
    exact sumN_congr m fun k _ => rfl
theorem sumN_bd {g : Nat → Int} (hg : ∀ x, 0 ≤ g x ∧ g x ≤ 16) : ∀ k : Nat, 0 ≤ sumN g k ∧ sumN g k ≤ 16 * k
  | 0 => by simp [sumN, upto]
  | k + 1 => by
    have ih := sumN_bd hg k
    have := hg k
    rw [sumN_succ]
    omega
theorem sum_listTo (g : Int → Int) (s : Int) : ∀ k, ((listTo s k).map g).sum = sumN (fun i => if has s i = true then g i else 0) k
  | 0 => rfl
  | k + 1 => by
    rw [listTo_succ, sumN_succ, ← sum_listTo g s k]
    by_cases h : has s k = true <;> simp [h]
theorem countF_sum (s : Int) : countF s = sumN (fun i => if has s i = true then 1 else 0) 16 := by
  rw [← sum_listTo (fun _ => 1) s 16]
  unfold countF
  generalize listTo s 16 = l
  induction l with
  | nil => rfl
  | cons x l ih => simp only [List.length_cons, List.map_cons, List.sum_cons] at ih ⊢; omega
theorem countF_bd (s : Int) : 0 ≤ countF s ∧ countF s ≤ 16 := by
  have := listTo_len s 16
  unfold countF; omega
/-- One place of a sum. -/
theorem sumN_one {v : Int} : ∀ (n : Nat), sumN (fun k => if (v == (k : Int)) = true then 1 else 0) n = if 0 ≤ v ∧ v < n then 1 else 0
  | 0 => by rw [if_neg (by omega)]; rfl
  | n + 1 => by
    rw [sumN_succ, sumN_one n]
    by_cases h : v = n
    · have e : (v == (n : Int)) = true := by simpa using h
      rw [e, if_neg (by omega), if_pos rfl, if_pos (by omega)]; rfl
    · have e : (v == (n : Int)) = false := by simpa using h
      rw [e, if_neg Bool.false_ne_true]
      by_cases q : 0 ≤ v ∧ v < n
      · rw [if_pos q, if_pos (by omega)]; rfl
      · rw [if_neg q, if_neg (by omega)]; rfl
end Go.Proofs.Ythpccjgpbcginaa.Ev
