/- Bins: plain laws. -/
import Derived.Test.YtfmbchnejelpkaaUk
namespace Go.Proofs.Ytfmbchnejelpkaa.Ev
open Go
attribute [local congr] ob_congr sq_congr cd_congr ite_congr1 iter_congr it1_congr jumps_congr
set_option maxRecDepth 100000
set_option linter.unusedSimpArgs false
set_option linter.unusedVariables false
def bin (ed : List Nat) (x : Nat) : Nat := (ed.takeWhile fun e => fle e x).length
theorem bin_le (ed : List Nat) (x : Nat) : bin ed x ≤ ed.length := (List.takeWhile_prefix _).length_le
theorem bin_lo (x : Nat) : ∀ (ed : List Nat) (q : Nat), q < bin ed x → fle (ed.getD q 0) x = true
  | [], q, h => by simp [bin] at h
  | e :: ed, q, h => by
    unfold bin at h
    rw [List.takeWhile_cons] at h
    split at h
    · rename_i he
      cases q with
      | zero => exact he
      | succ q => exact bin_lo x ed q (by simpa [bin] using h)
    · simp at h
theorem bin_hi (x : Nat) : ∀ (ed : List Nat), bin ed x = ed.length ∨ fle (ed.getD (bin ed x) 0) x = false
  | [] => .inl rfl
  | e :: ed => by
    unfold bin
    rw [List.takeWhile_cons]
    split
    · rename_i he
      rcases bin_hi x ed with h | h
      · exact .inl (by rw [List.length_cons, List.length_cons]; exact congrArg (· + 1) h)
      · exact .inr h
    · rename_i he
      exact .inr (by simpa using he)
def okB (ed : List Nat) (q : Nat) : Bool := !nan (ed.getD q 0) && (q == 0 || flt (ed.getD (q - 1) 0) (ed.getD q 0))
theorem okB_zero {ed : List Nat} : okB ed 0 = !nan (ed.getD 0 0) := by simp [okB]
theorem okB_succ {ed : List Nat} {q : Nat} : okB ed (q + 1) = (!nan (ed.getD (q + 1) 0) && flt (ed.getD q 0) (ed.getD (q + 1) 0)) := by simp [okB]
theorem okB_val {ed : List Nat} {q : Nat} (h : okB ed q = true) : ∃ v, fval (ed.getD q 0) = some v := by
  unfold okB at h
  rw [Bool.and_eq_true, nan_val0] at h
  cases hv : fval (ed.getD q 0) with
  | none => rw [hv] at h; exact absurd h.1 (by decide)
  | some v => exact ⟨v, rfl⟩
theorem fle_down {ed : List Nat} {x : Nat} (ok : ∀ q, q < ed.length → okB ed q = true) : ∀ d p, p + d < ed.length → fle (ed.getD (p + d) 0) x = true → fle (ed.getD p 0) x = true
  | 0, p, _, h => h
  | d + 1, p, hl, h => by
    refine fle_down ok d p (by omega) ?_
    have h1 := ok (p + (d + 1)) hl
    rw [show p + (d + 1) = p + d + 1 by omega, okB_succ, Bool.and_eq_true] at h1
    have h2 := h1.2
    rw [fle_val] at h ⊢
    rw [flt_val] at h2
    rw [show p + (d + 1) = p + d + 1 by omega] at h
    generalize fval (ed.getD (p + d) 0) = a at *
    generalize fval (ed.getD (p + d + 1) 0) = b at *
    generalize fval x = c at *
    cases a <;> cases b <;> cases c <;> simp_all [ole, olt]
    omega
theorem bin_is {ed : List Nat} {x low : Nat} (ok : ∀ q, q < ed.length → okB ed q = true) (h : low ≤ ed.length) (h1 : low = 0 ∨ fle (ed.getD (low - 1) 0) x = true) (h2 : low = ed.length ∨ fle (ed.getD low 0) x = false) : low = bin ed x := by
  have b1 := bin_le ed x
  rcases Nat.lt_trichotomy low (bin ed x) with hlt | he | hgt
  · rcases h2 with h2 | h2
    · omega
    · rw [bin_lo x ed low hlt] at h2; cases h2
  · exact he
  · rcases h1 with h1 | h1
    · omega
    · have := fle_down ok (low - 1 - bin ed x) (bin ed x) (by omega) (by rw [show bin ed x + (low - 1 - bin ed x) = low - 1 by omega]; exact h1)
      rcases bin_hi x ed with h3 | h3
      · omega
      · rw [this] at h3; cases h3
theorem first_fail (p : Nat → Bool) : ∀ N, (∀ q, q < N → p q = true) ∨ ∃ n, n < N ∧ p n = false ∧ ∀ q, q < n → p q = true
  | 0 => .inl fun q h => by omega
  | N + 1 => by
    rcases first_fail p N with h | ⟨n, h1, h2, h3⟩
    · cases hp : p N with
      | true =>
        refine .inl fun q hq => ?_
        by_cases e : q = N
        · rw [e]; exact hp
        · exact h q (by omega)
      | false => exact .inr ⟨N, by omega, hp, h⟩
    · exact .inr ⟨n, by omega, h2, h3⟩
/-- Of the first i, how many are in part j. -/
def cn (ed l : List Nat) (i j : Nat) : Nat := ((l.take i).filter fun x => !nan x && bin ed x == j).length
theorem cn_nan {ed l : List Nat} {i : Nat} (h : i < l.length) (hn : nan (l.getD i 0) = true) : cn ed l (i + 1) = cn ed l i := funext fun j => by
  unfold cn; rw [take_snoc l h, List.filter_append, List.length_append, List.filter_cons, hn]; rfl
theorem cn_not {ed l : List Nat} {i : Nat} (h : i < l.length) (hn : nan (l.getD i 0) = false) : cn ed l (i + 1) = fun j => if j = bin ed (l.getD i 0) then cn ed l i j + 1 else cn ed l i j := funext fun j => by
  unfold cn; rw [take_snoc l h, List.filter_append, List.length_append, List.filter_cons, hn]
  by_cases e : j = bin ed (l.getD i 0)
  · rw [if_pos e, e]; simp
  · rw [if_neg e, if_neg (by simp; exact fun q => e q.symm)]; rfl
theorem cn_le (ed l : List Nat) (i j : Nat) : cn ed l i j ≤ l.length := by
  unfold cn; exact Nat.le_trans (List.length_filter_le _ _) (by rw [List.length_take]; omega)
def ci (f : Nat → Nat) (n : Nat) : List D := (List.range n).map fun j => .s (.int .i64 (f j))
theorem ci_len (f : Nat → Nat) (n : Nat) : (ci f n).length = n := by simp [ci]
theorem ci_get (f : Nat → Nat) {n i : Nat} (h : i < n) : (ci f n)[i]? = some (.s (.int .i64 (f i))) := by simp [ci, h]
theorem ci_set (f : Nat → Nat) {n i : Nat} (h : i < n) : (ci f n).set i (.s (.int .i64 ((f i + 1 : Nat) : Int))) = ci (fun j => if j = i then f j + 1 else f j) n := by
  refine List.ext_getElem (by simp [ci]) fun k h1 h2 => ?_
  simp only [ci, List.getElem_set, List.getElem_map, List.getElem_range]
  by_cases e : i = k
  · rw [if_pos e, if_pos e.symm, e]
  · rw [if_neg e, if_neg fun q => e q.symm]
theorem ci_zero (n : Nat) : List.replicate n (D.s (.int .i64 0)) = ci (fun _ => 0) n := by
  refine List.ext_getElem (by simp [ci]) fun k h1 h2 => ?_
  simp [ci]
theorem cn_zero (ed l : List Nat) : cn ed l 0 = fun _ => 0 := rfl
/- The parts together. -/
def sumTo (f : Nat → Nat) : Nat → Nat
  | 0 => 0
  | n + 1 => sumTo f n + f n
theorem sumTo_one {f : Nat → Nat} {i : Nat} : ∀ n, i < n → sumTo (fun j => if j = i then f j + 1 else f j) n = sumTo f n + 1
  | 0, h => by omega
  | n + 1, h => by
    simp only [sumTo]
    by_cases e : i = n
    · subst e
      rw [if_pos rfl]
      have : ∀ m, m ≤ i → sumTo (fun j => if j = i then f j + 1 else f j) m = sumTo f m := fun m => by
        induction m with
        | zero => intro _; rfl
        | succ m ih => intro hm; simp only [sumTo]; rw [ih (by omega), if_neg (by omega)]
      rw [this i (Nat.le_refl _)]; omega
    · rw [sumTo_one n (by omega), if_neg fun q => e q.symm]; omega
theorem sumTo_zero : ∀ n, sumTo (fun _ => 0) n = 0
  | 0 => rfl
  | n + 1 => by simp only [sumTo, sumTo_zero n]
/-- How many of the first i are numbers. -/
def nums (l : List Nat) (i : Nat) : Nat := ((l.take i).filter fun x => !nan x).length
theorem nums_zero (l : List Nat) : nums l 0 = 0 := rfl
theorem nums_nan {l : List Nat} {i : Nat} (h : i < l.length) (hn : nan (l.getD i 0) = true) : nums l (i + 1) = nums l i := by
  unfold nums; rw [take_snoc l h, List.filter_append, List.length_append, List.filter_cons, hn]; rfl
theorem nums_not {l : List Nat} {i : Nat} (h : i < l.length) (hn : nan (l.getD i 0) = false) : nums l (i + 1) = nums l i + 1 := by
  unfold nums; rw [take_snoc l h, List.filter_append, List.length_append, List.filter_cons, hn]; rfl
theorem nums_le (l : List Nat) (i : Nat) : nums l i ≤ l.length := by
  unfold nums; exact Nat.le_trans (List.length_filter_le _ _) (by rw [List.length_take]; omega)
theorem cn_sum (ed l : List Nat) : ∀ i, i ≤ l.length → sumTo (cn ed l i) (ed.length + 1) = nums l i
  | 0, _ => by rw [cn_zero]; exact sumTo_zero _
  | i + 1, h => by
    have ih := cn_sum ed l i (by omega)
    have b := bin_le ed (l.getD i 0)
    cases hn : nan (l.getD i 0) with
    | true => rw [cn_nan (by omega) hn, nums_nan (by omega) hn]; exact ih
    | false => rw [cn_not (by omega) hn, nums_not (by omega) hn, sumTo_one _ (by omega), ih]
theorem sumTo_le (f : Nat → Nat) {n m : Nat} (h : n ≤ m) : sumTo f n ≤ sumTo f m := by
  induction m with
  | zero => rw [show n = 0 by omega]; exact Nat.le_refl _
  | succ m ih =>
    by_cases e : n = m + 1
    · rw [e]; exact Nat.le_refl _
    · exact Nat.le_trans (ih (by omega)) (Nat.le_add_right _ _)
end Go.Proofs.Ytfmbchnejelpkaa.Ev
