/- Arrays of numbers: exchanges, what they keep; an order's laws; a loop that comes to its end by a measure. -/
import Derived.Test.YtfmbchnejelpkaaGa
import Derived.Test.YtfmbchnejelpkaaEvK
namespace Go.Proofs.Ytfmbchnejelpkaa.Ev
open Go
attribute [local congr] ob_congr sq_congr cd_congr ite_congr1 iter_congr it1_congr jumps_congr
set_option maxRecDepth 100000
set_option linter.unusedSimpArgs false
set_option linter.unusedVariables false
theorem iter_meas {α : Type} {f : St → Option (Ex × St)} {lf : Nat} {s0 : St} {r : Option (Ex × St)} (hI : iter lf f s0 = r) (S : α → St) (P : α → Prop) (go : α → Prop) (μ : α → Nat) (x0 : α) (h0 : s0 = S x0) (hP : P x0) (hn : μ x0 < lf)
    (step : ∀ x, P x → go x → ∃ y, f (S x) = some (.normal, S y) ∧ P y ∧ μ y < μ x) : ∃ x l, P x ∧ ¬ go x ∧ r = it1 l f (f (S x)) := by
  subst h0
  subst hI
  induction hm : μ x0 using Nat.strongRecOn generalizing x0 lf with
  | _ m ih =>
    subst hm
    obtain ⟨lf, rfl⟩ : ∃ k, lf = k + 1 := ⟨lf - 1, by omega⟩
    by_cases hg : go x0
    · obtain ⟨y, h1, h2, h3⟩ := step x0 hP hg
      obtain ⟨x, l, q1, q2, q3⟩ := ih (μ y) h3 y h2 (lf := lf) (by omega) rfl
      exact ⟨x, l, q1, q2, by rw [iter_one, h1, it1_normal]; exact q3⟩
    · exact ⟨x0, lf, hP, hg, iter_one⟩

/-- n numbers, in an array. -/
abbrev fa (n : Nat) (x : Nat → Nat) : D := .arr n cF fun i => dF (x i)
theorem setN_float (l : Nat → Nat) (i v : Nat) : setN (fun i => D.s (.float .f64 (l i))) i (.s (.float .f64 v)) = fun j => D.s (.float .f64 (setN l i v j)) :=
  funext fun j => by by_cases h : j = i <;> simp [setN, h]
/-- Two exchanged: the first is written first. -/
def swp (x : Nat → Nat) (i j : Nat) : Nat → Nat := setN (setN x i (x j)) j (x i)
theorem swp_at (x : Nat → Nat) (i j k : Nat) : swp x i j k = if k = j then x i else if k = i then x j else x k := by
  unfold swp setN; rfl
theorem swp_same (x : Nat → Nat) (i : Nat) : swp x i i = x := funext fun k => by rw [swp_at]; split <;> simp_all

/- How often a number is there. -/
def cntTo (x : Nat → Nat) (v : Nat) : Nat → Nat
  | 0 => 0
  | n + 1 => cntTo x v n + if x n = v then 1 else 0
theorem cntTo_congr {x y : Nat → Nat} {v n : Nat} (h : ∀ k, k < n → y k = x k) : cntTo y v n = cntTo x v n := by
  induction n with
  | zero => rfl
  | succ n ih => simp only [cntTo]; rw [ih fun k hk => h k (by omega), h n (by omega)]
theorem cntTo_set (x : Nat → Nat) (i u v : Nat) : ∀ n, i < n → cntTo (setN x i u) v n + (if x i = v then 1 else 0) = cntTo x v n + if u = v then 1 else 0
  | 0, h => by omega
  | n + 1, h => by
    simp only [cntTo]
    by_cases e : i = n
    · subst e
      rw [cntTo_congr (x := x) (y := setN x i u) fun k hk => setN_ne x u (by omega), setN_eq]; omega
    · have := cntTo_set x i u v n (by omega)
      rw [setN_ne x u (show n ≠ i from fun q => e q.symm)]; omega
theorem cntTo_swp (x : Nat → Nat) {i j n : Nat} (hi : i < n) (hj : j < n) (v : Nat) : cntTo (swp x i j) v n = cntTo x v n := by
  by_cases e : i = j
  · subst e; rw [swp_same]
  · have h1 := cntTo_set (setN x i (x j)) j (x i) v n hj
    have h2 := cntTo_set x i (x j) v n hi
    rw [setN_ne x (x j) (show j ≠ i from fun q => e q.symm)] at h1
    show cntTo (setN (setN x i (x j)) j (x i)) v n = _
    omega

/-- What is within lo and hi was only put in another order. -/
structure Mv (N lo hi : Nat) (x y : Nat → Nat) : Prop where
  out : ∀ k, ¬ (lo ≤ k ∧ k < hi) → y k = x k
  mem : ∀ k, lo ≤ k → k < hi → ∃ k', lo ≤ k' ∧ k' < hi ∧ y k = x k'
  cnt : ∀ v, cntTo y v N = cntTo x v N
theorem Mv.refl (N lo hi : Nat) (x : Nat → Nat) : Mv N lo hi x x := ⟨fun _ _ => rfl, fun k h1 h2 => ⟨k, h1, h2, rfl⟩, fun _ => rfl⟩
theorem Mv.trans {N lo hi lo' hi' : Nat} {x y z : Nat → Nat} (h : Mv N lo hi x y) (h' : Mv N lo' hi' y z) (h1 : lo ≤ lo') (h2 : hi' ≤ hi) : Mv N lo hi x z := by
  refine ⟨fun k hk => ?_, fun k k1 k2 => ?_, fun v => (h'.cnt v).trans (h.cnt v)⟩
  · rw [h'.out k (by omega), h.out k hk]
  · by_cases hk : lo' ≤ k ∧ k < hi'
    · obtain ⟨k', q1, q2, q3⟩ := h'.mem k hk.1 hk.2
      obtain ⟨k'', p1, p2, p3⟩ := h.mem k' (by omega) (by omega)
      exact ⟨k'', p1, p2, q3.trans p3⟩
    · obtain ⟨k'', p1, p2, p3⟩ := h.mem k k1 k2
      exact ⟨k'', p1, p2, (h'.out k hk).trans p3⟩
theorem Mv.wide {N lo hi lo' hi' : Nat} {x y : Nat → Nat} (h : Mv N lo' hi' x y) (h1 : lo ≤ lo') (h2 : hi' ≤ hi) : Mv N lo hi x y := (Mv.refl N lo hi x).trans h h1 h2
theorem Mv.swp {N lo hi i j : Nat} (x : Nat → Nat) (hN : hi ≤ N) (h1 : lo ≤ i) (h2 : i < hi) (h3 : lo ≤ j) (h4 : j < hi) : Mv N lo hi x (swp x i j) := by
  refine ⟨fun k hk => ?_, fun k k1 k2 => ?_, fun v => cntTo_swp x (by omega) (by omega) v⟩
  · rw [swp_at, if_neg (by omega), if_neg (by omega)]
  · rw [swp_at]
    split
    · exact ⟨i, h1, h2, rfl⟩
    · split
      · exact ⟨j, h3, h4, rfl⟩
      · exact ⟨k, k1, k2, rfl⟩

/- The order. -/
theorem nan_val0 (b : Nat) : nan b = (fval b).isNone := by
  unfold nan; rw [feq_val]; cases fval b <;> simp [oeq]
def key0 (x y : Option Int) (s t : Bool) : Int :=
  match x, y with
  | none, none => 0
  | none, some _ => 1
  | some _, none => -1
  | some p, some q => if p < q then -1 else if q < p then 1 else if (s == t) = true then 0 else if s = true then -1 else 1
theorem ord_key0 (a b : Nat) : ord a b = key0 (fval a) (fval b) (sgn a) (sgn b) := by
  unfold ord key0
  rw [nan_val0, nan_val0, flt_val, flt_val]
  cases fval a <;> cases fval b <;> simp [olt]
theorem key0_swap (x y : Option Int) (s t : Bool) : key0 y x t s = - key0 x y s t := by
  cases x <;> cases y <;> simp only [key0] <;> try rfl
  rename_i p q
  by_cases h1 : p < q
  · have : ¬ q < p := by omega
    simp [h1, this]
  · by_cases h2 : q < p <;> cases s <;> cases t <;> simp [h1, h2]
theorem key0_trans (x y z : Option Int) (s t u : Bool) (h1 : key0 x y s t ≤ 0) (h2 : key0 y z t u ≤ 0) : key0 x z s u ≤ 0 := by
  cases x <;> cases y <;> cases z <;> simp only [key0] at * <;> try first | omega | (exact absurd h1 (by decide)) | (exact absurd h2 (by decide)) | decide
  rename_i p q r
  cases s <;> cases t <;> cases u <;> simp at * <;> repeat' (first | omega | split at * )
theorem ord_swap (a b : Nat) : ord b a = - ord a b := by rw [ord_key0, ord_key0]; exact key0_swap _ _ _ _
theorem ord_self (a : Nat) : ord a a = 0 := by have := ord_swap a a; omega
theorem ord_trans {a b c : Nat} (h1 : ord a b ≤ 0) (h2 : ord b c ≤ 0) : ord a c ≤ 0 := by
  have e1 := ord_key0 a b
  have e2 := ord_key0 b c
  have e3 := ord_key0 a c
  rw [e1] at h1
  rw [e2] at h2
  rw [e3]
  exact key0_trans _ _ _ _ _ _ h1 h2
/-- Rising from lo to hi. -/
def Srt (x : Nat → Nat) (lo hi : Nat) : Prop := ∀ i j, lo ≤ i → i ≤ j → j < hi → ord (x i) (x j) ≤ 0
theorem srt_congr {x y : Nat → Nat} {lo hi : Nat} (h : ∀ k, lo ≤ k → k < hi → y k = x k) (hs : Srt x lo hi) : Srt y lo hi := fun i j h1 h2 h3 => by
  rw [h i h1 (by omega), h j (by omega) h3]; exact hs i j h1 h2 h3
theorem srt_step {x : Nat → Nat} {lo hi : Nat} (h : ∀ k, lo ≤ k → k + 1 < hi → ord (x k) (x (k + 1)) ≤ 0) : Srt x lo hi := by
  intro i j h1 h2 h3
  obtain ⟨d, rfl⟩ : ∃ d, j = i + d := ⟨j - i, by omega⟩
  clear h2
  induction d with
  | zero => rw [Nat.add_zero, ord_self]; omega
  | succ d ih => exact ord_trans (ih (by omega)) (h (i + d) (by omega) h3)
/-- Two rising parts, none of the second ahead of any of the first. -/
theorem srt_join {x : Nat → Nat} {lo mid hi : Nat} (h1 : Srt x lo mid) (h2 : Srt x mid hi) (h : ∀ i j, lo ≤ i → i < mid → mid ≤ j → j < hi → ord (x i) (x j) ≤ 0) : Srt x lo hi := by
  intro i j p1 p2 p3
  by_cases hi' : i < mid
  · by_cases hj : j < mid
    · exact h1 i j p1 p2 hj
    · exact h i j p1 hi' (by omega) p3
  · exact h2 i j (by omega) p2 p3
abbrev cmpV : V := .d (.s (.func (.func 7) #[] #[]))
theorem wsub {a b : Nat} (h : b ≤ a) (ha : a < 1000000) : IntKind.i64.wrap ((a : Int) - (b : Int)) = ((a - b : Nat) : Int) := by rw [IntWalk.i64_in _ (by omega)]; omega
theorem wadd {a b : Nat} (ha : a < 1000000) (hb : b < 1000000) : IntKind.i64.wrap ((a : Int) + (b : Int)) = ((a + b : Nat) : Int) := by rw [IntWalk.i64_in _ (by omega)]; omega
theorem ilt {a b : Nat} (h : a < b) : (a : Int) < (b : Int) := by omega
theorem inlt {a b : Nat} (h : ¬ a < b) : ¬ (a : Int) < (b : Int) := by omega
theorem i0 (a : Nat) : (0 : Int) ≤ (a : Int) := by omega
end Go.Proofs.Ytfmbchnejelpkaa.Ev
