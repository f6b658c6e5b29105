/- What the functions of walk compute: ways back. -/
import Derived.Test.YtfbaikkadndckaaTr
import Derived.Test.YtfbaikkadndckaaSa
namespace Go.Proofs.Ytfbaikkadndckaa.Ev
open Go
attribute [local congr] ob_congr sq_congr cd_congr ite_congr1 iter_congr it1_congr jumps_congr
set_option maxRecDepth 100000
set_option linter.unusedSimpArgs false
set_option linter.unusedVariables false

/-- The way back, node by node. -/
def ch (p : Nat → Int) (j : Int) : Nat → Int
  | 0 => j
  | k + 1 => p (ch p j k).toNat
def seenS (p : Nat → Int) (j : Int) (k : Nat) : Int := upto (fun i s => withN s (ch p j (i + 1))) (withN 0 j) k
def wayTo (p : Nat → Int) (j : Int) (k : Nat) : List Int := (List.range (k + 1)).map (ch p j)
theorem wayTo_succ (p : Nat → Int) (j : Int) (k : Nat) : wayTo p j (k + 1) = wayTo p j k ++ [ch p j (k + 1)] := by
  unfold wayTo; rw [List.range_succ (n := k + 1), List.map_append]; rfl
theorem wayTo_len (p : Nat → Int) (j : Int) (k : Nat) : (wayTo p j k).length = k + 1 := by simp [wayTo]
def fitAt (d p : Nat → Int) (j : Int) (k : Nat) : Prop := right (ch p j (k + 1)) = true ∧ has (seenS p j k) (ch p j (k + 1)) = false ∧ d (ch p j (k + 1)).toNat ≠ 4294967295
def stopAt (d p : Nat → Int) (root j : Int) (k : Nat) : Prop := ch p j k = root ∨ ¬ fitAt d p j k

theorem pigeon : ∀ (n : Nat) (f : Nat → Nat), (∀ i, i ≤ n → f i < n) → (∀ i j, i < j → j ≤ n → f i ≠ f j) → False
  | 0, f, h, _ => by have := h 0 (Nat.le_refl _); omega
  | n + 1, f, h, hi => by
    refine pigeon n (fun i => if f i = n then f (n + 1) else f i) (fun i hn => ?_) (fun i j hij hj => ?_)
    · have h1 := h i (by omega)
      have h2 := h (n + 1) (by omega)
      have h3 := hi i (n + 1) (by omega) (by omega)
      show (if f i = n then f (n + 1) else f i) < n
      split <;> omega
    · have h1 := hi i j hij (by omega)
      have h2 := hi i (n + 1) (by omega) (by omega)
      have h3 := hi j (n + 1) (by omega) (by omega)
      show (if f i = n then f (n + 1) else f i) ≠ (if f j = n then f (n + 1) else f j)
      split <;> split <;> omega

theorem inI_seenS (p : Nat → Int) (j : Int) : ∀ k, inI (seenS p j k)
  | 0 => inI_withN inI_zero _
  | k + 1 => inI_withN (inI_seenS p j k) _
theorem has_withN {s : Int} (hs : inI s) (n m : Int) : has (withN s n) m = (has s m || (right n && decide (m = n))) := by
  rw [has_tb (inI_withN hs n), has_tb hs, tb_withN]
  by_cases hm : right m = true
  · by_cases hn : right n = true
    · have a := right_nn hm; have b := right_nn hn
      have : (decide (m.toNat = n.toNat)) = decide (m = n) := by simp; omega
      simp [hm, hn, this]
    · simp [hm, hn]
  · by_cases hn : right n = true
    · have : m ≠ n := fun e => hm (e ▸ hn)
      simp [hm, this]
    · simp [hm, hn]
theorem has_withoutN {s : Int} (hs : inI s) (n m : Int) : has (withoutN s n) m = (has s m && !(right n && decide (m = n))) := by
  rw [has_tb (inI_withoutN hs n), has_tb hs, tb_withoutN]
  by_cases hm : right m = true
  · by_cases hn : right n = true
    · have a := right_nn hm; have b := right_nn hn
      have : (decide (m.toNat = n.toNat)) = decide (m = n) := by simp; omega
      simp [hm, hn, this]
    · simp [hm, hn]
  · simp [hm]
theorem has_zero (m : Int) : has 0 m = false := by rw [has_tb inI_zero, tb_zero]; simp
theorem seen_mem (p : Nat → Int) (j : Int) : ∀ k i, i ≤ k → right (ch p j i) = true → has (seenS p j k) (ch p j i) = true
  | 0, i, hi, hr => by
    obtain rfl : i = 0 := by omega
    show has (withN 0 j) j = true
    rw [has_withN inI_zero, has_zero]
    have hr : right j = true := hr
    simp [hr]
  | k + 1, i, hi, hr => by
    show has (withN (seenS p j k) (ch p j (k + 1))) (ch p j i) = true
    rw [has_withN (inI_seenS p j k)]
    by_cases e : i = k + 1
    · subst e; simp [hr]
    · rw [seen_mem p j k i (by omega) hr]; rfl
theorem seen_iff (p : Nat → Int) (j : Int) : ∀ k m, has (seenS p j k) m = true → ∃ i, i ≤ k ∧ m = ch p j i ∧ right m = true
  | 0, m, h => by
    have h : has (withN 0 j) m = true := h
    rw [has_withN inI_zero, has_zero] at h
    simp at h
    exact ⟨0, Nat.le_refl _, h.2, h.2 ▸ h.1⟩
  | k + 1, m, h => by
    have h : has (withN (seenS p j k) (ch p j (k + 1))) m = true := h
    rw [has_withN (inI_seenS p j k), Bool.or_eq_true] at h
    rcases h with h | h
    · obtain ⟨i, hi, e, hr⟩ := seen_iff p j k m h
      exact ⟨i, by omega, e, hr⟩
    · simp at h
      exact ⟨k + 1, Nat.le_refl _, h.2, h.2 ▸ h.1⟩

theorem fit_right {d p : Nat → Int} {j : Int} (h0 : right j = true) {n : Nat} (h : ∀ k, k < n → fitAt d p j k) : ∀ k, k ≤ n → right (ch p j k) = true
  | 0, _ => h0
  | k + 1, hk => (h k (by omega)).1
theorem fit_ne {d p : Nat → Int} {j : Int} (h0 : right j = true) {n : Nat} (h : ∀ k, k < n → fitAt d p j k) (i k : Nat) (hik : i < k) (hk : k ≤ n) : ch p j i ≠ ch p j k := by
  intro e
  obtain ⟨k, rfl⟩ : ∃ m, k = m + 1 := ⟨k - 1, by omega⟩
  have h1 := (h k (by omega)).2.1
  have h2 := seen_mem p j k i (by omega) (fit_right h0 h i (by omega))
  rw [e, h1] at h2
  cases h2
theorem stop_ex (d p : Nat → Int) (root j : Int) (h0 : right j = true) : ∃ k, k < 16 ∧ stopAt d p root j k := by
  refine Classical.byContradiction fun hn => ?_
  have h : ∀ k, k < 16 → fitAt d p j k := fun k hk => Classical.byContradiction fun hf => hn ⟨k, hk, Or.inr hf⟩
  refine pigeon 16 (fun i => (ch p j i).toNat) (fun i hi => ?_) (fun i k hik hk => ?_)
  · have := right_nn (fit_right h0 h i hi); omega
  · have h1 := right_nn (fit_right h0 h i (by omega))
    have h2 := right_nn (fit_right h0 h k hk)
    have h3 := fit_ne h0 h i k hik hk
    show (ch p j i).toNat ≠ (ch p j k).toNat
    omega

open Classical in
noncomputable def backL (d p : Nat → Int) (root j : Int) : List Int :=
  if h : ∃ n, n < 16 ∧ right root = true ∧ gd d j ≠ 4294967295 ∧ (∀ k, k < n → ¬ stopAt d p root j k) ∧ ch p j n = root then wayTo p j h.choose else []
theorem not_stop {d p : Nat → Int} {root j : Int} {k : Nat} (h : ¬ stopAt d p root j k) : ch p j k ≠ root ∧ fitAt d p j k :=
  ⟨fun e => h (Or.inl e), Classical.byContradiction fun e => h (Or.inr e)⟩
theorem backL_of {d p : Nat → Int} {root j : Int} {n : Nat} (hn : n < 16) (hr : right root = true) (hj : gd d j ≠ 4294967295) (hs : ∀ k, k < n → ¬ stopAt d p root j k) (he : ch p j n = root) : backL d p root j = wayTo p j n := by
  have h : ∃ n, n < 16 ∧ right root = true ∧ gd d j ≠ 4294967295 ∧ (∀ k, k < n → ¬ stopAt d p root j k) ∧ ch p j n = root := ⟨n, hn, hr, hj, hs, he⟩
  unfold backL
  rw [dif_pos h]
  obtain ⟨h1, h2, h3, h4, h5⟩ := h.choose_spec
  congr 1
  rcases Nat.lt_trichotomy h.choose n with hl | hl | hl
  · exact absurd (Or.inl h5) (hs _ hl)
  · exact hl
  · exact absurd (Or.inl he) (h4 _ hl)
theorem backL_no {d p : Nat → Int} {root j : Int} (h : ¬ ∃ n, n < 16 ∧ right root = true ∧ gd d j ≠ 4294967295 ∧ (∀ k, k < n → ¬ stopAt d p root j k) ∧ ch p j n = root) : backL d p root j = [] := dif_neg h
theorem backL_cases (d p : Nat → Int) (root j : Int) : backL d p root j = [] ∨ ∃ n, n < 16 ∧ right root = true ∧ gd d j ≠ 4294967295 ∧ (∀ k, k < n → ¬ stopAt d p root j k) ∧ ch p j n = root ∧ backL d p root j = wayTo p j n := by
  by_cases h : ∃ n, n < 16 ∧ right root = true ∧ gd d j ≠ 4294967295 ∧ (∀ k, k < n → ¬ stopAt d p root j k) ∧ ch p j n = root
  · obtain ⟨n, h1, h2, h3, h4, h5⟩ := h
    exact Or.inr ⟨n, h1, h2, h3, h4, h5, backL_of h1 h2 h3 h4 h5⟩
  · exact Or.inl (backL_no h)
theorem backL_len (d p : Nat → Int) (root j : Int) : (backL d p root j).length ≤ 16 := by
  rcases backL_cases d p root j with h | ⟨n, h1, _, _, _, _, h⟩
  · rw [h]; simp
  · rw [h, wayTo_len]; omega
theorem gd_right {d : Nat → Int} {j : Int} (h : gd d j ≠ 4294967295) : right j = true := by
  by_cases e : right j = true
  · exact e
  · exact absurd (gd_no (by simpa using e)) h
noncomputable def backOk (d p : Nat → Int) (root j : Int) : Bool := decide (0 < ((backL d p root j).length : Int))
abbrev slI (l : List Int) : V := .sl .ro cI (ints l)

theorem back_ev (k : Nat) (d p : Nat → Int) (root j : Int) : evF Try.prog env xt (k+3) 157 [.d (treeD d p), .d (.s (.int .i64 (root))), .d (.s (.int .i64 (j)))] = some (.tcons (slI (backL d p root j)) (.tcons (.d (.s (.bool (backOk d p root j)))) .tnil)) := by
  rw [evF_eq Try.func157 (show Try.f157.body = some _ from rfl) rfl rfl (by show 3 ≤ 56; decide)]
  by_cases hr : right root = true
  · by_cases hj : gd d j = 4294967295
    · have e : backL d p root j = [] := backL_no fun ⟨n, _, _, h, _⟩ => h hj
      have e2 : backOk d p root j = false := by unfold backOk; rw [e]; rfl
      simp (decide := true) only [right_ev, hr, get_ev, hj, e, e2, Try.f157, rid, kl157_6, gl157_0, ↓sBp, sBq, List.all_cons, List.all_nil, List.map_cons, List.map_nil, D.shape, Sh.sub, Sh.size, List.getElem?_cons_zero, List.getElem?_cons_succ, Option.bind_some, Option.bind_none, Option.getD_some, Option.getD_none, V.keysIn, V.kill, V.has, decide_eq_true_eq, beq_iff_eq, bne_iff_ne, ne_eq, Bool.not_eq_true', Bool.and_true, Bool.and_self, Bool.true_and, if_true, if_false, reduceIte, Bool.false_eq_true, decide_true, decide_false, beq_self_eq_true, Bool.not_true, Bool.not_false, true_and, and_true, and_self, List.append_assoc, List.nil_append, List.cons_append, Int.toNat_natCast, ck, Int.cast_ofNat_Int, Int.reduceToNat, bne_self_eq_false, Bool.or_false, Bool.false_or, Bool.false_and, Bool.and_false, Bool.or_true, Bool.true_or]
      rfl
    · have hrj := gd_right hj
      obtain ⟨n, hn, hs, hf⟩ := first_of (stop_ex d p root j hrj)
      have fit : ∀ k, k < n → fitAt d p j k := fun k hk => (not_stop (hf k hk)).2
      have hrc := fit_right hrj fit
      simp (decide := true) only [right_ev, hr, get_ev, hj, with_ev, rep1, Try.f157, rid, kl157_6, gl157_0, ↓sBp, sBq, List.all_cons, List.all_nil, List.map_cons, List.map_nil, D.shape, Sh.sub, Sh.size, List.getElem?_cons_zero, List.getElem?_cons_succ, Option.bind_some, Option.bind_none, Option.getD_some, Option.getD_none, V.keysIn, V.kill, V.has, decide_eq_true_eq, beq_iff_eq, bne_iff_ne, ne_eq, Bool.not_eq_true', Bool.and_true, Bool.and_self, Bool.true_and, if_true, if_false, reduceIte, Bool.false_eq_true, decide_true, decide_false, beq_self_eq_true, Bool.not_true, Bool.not_false, true_and, and_true, and_self, List.append_assoc, List.nil_append, List.cons_append, Int.toNat_natCast, ck, Int.cast_ofNat_Int, Int.reduceToNat, bne_self_eq_false, Bool.or_false, Bool.false_or, Bool.false_and, Bool.and_false, Bool.or_true, Bool.true_or]
      rw [iter_run (S := fun k => ⟨tab .junk [(1, .d (.s (.int .i64 (root)))), (3, .ptr 3 (shT) [] (shT)), (8, .sl (.tg 22) cI (ints (wayTo p j k))), (9, .d (.s (.int .i64 (seenS p j k)))), (10, .d (.s (.int .i64 (ch p j k))))], tab none [(3, some (.box (treeD d p))), (8, none), (22, some .row), (24, none), (48, none), (51, none)]⟩) (n := n) (h0 := ?h0) (hn := ?hn) (step := ?step)]
      case h0 => rfl
      case hn => exact lt_loopFuel (by omega)
      case step =>
        intro k hk
        obtain ⟨h1, h2, h3, h4⟩ := not_stop (hf k hk)
        have h5 := right_nn (hrc k (by omega))
        have h6 := right_nn h2
        have e1 : p (ch p j k).toNat = ch p j (k + 1) := rfl
        have e2 : withN (seenS p j k) (ch p j (k + 1)) = seenS p j (k + 1) := rfl
        have hl := wayTo_len p j k
        have hc := app_ok (sh := cI) (ints (wayTo p j k)) 8 (by omega) (by rw [ints_length]; omega)
        simp (decide := true) only [h1, h2, h3, h4, h5, h6, e1, e2, right_ev, has_ev, with_ev, rep1, List.length_singleton, hc, ints_snoc, wayTo_succ, Try.f157, rid, kl157_6, gl157_0, ↓sBp, sBq, List.all_cons, List.all_nil, List.map_cons, List.map_nil, D.shape, Sh.sub, Sh.size, List.getElem?_cons_zero, List.getElem?_cons_succ, Option.bind_some, Option.bind_none, Option.getD_some, Option.getD_none, V.keysIn, V.kill, V.has, decide_eq_true_eq, beq_iff_eq, bne_iff_ne, ne_eq, Bool.not_eq_true', Bool.and_true, Bool.and_self, Bool.true_and, if_true, if_false, reduceIte, Bool.false_eq_true, decide_true, decide_false, beq_self_eq_true, Bool.not_true, Bool.not_false, true_and, and_true, and_self, List.append_assoc, List.nil_append, List.cons_append, Int.toNat_natCast, ck, Int.cast_ofNat_Int, Int.reduceToNat, bne_self_eq_false, Bool.or_false, Bool.false_or, Bool.false_and, Bool.and_false, Bool.or_true, Bool.true_or]
      have h5 := right_nn (hrc n (by omega))
      rcases Classical.em (ch p j n = root) with he | he
      · have e := backL_of hn hr hj hf he
        have e2 : backOk d p root j = true := by unfold backOk; rw [e, wayTo_len]; simp
        have e3 : (0 : Int) < ((ints (wayTo p j n)).length : Int) := by rw [ints_length, wayTo_len]; omega
        simp (decide := true) only [he, e, e2, e3, Try.f157, rid, kl157_6, gl157_0, ↓sBp, sBq, List.all_cons, List.all_nil, List.map_cons, List.map_nil, D.shape, Sh.sub, Sh.size, List.getElem?_cons_zero, List.getElem?_cons_succ, Option.bind_some, Option.bind_none, Option.getD_some, Option.getD_none, V.keysIn, V.kill, V.has, decide_eq_true_eq, beq_iff_eq, bne_iff_ne, ne_eq, Bool.not_eq_true', Bool.and_true, Bool.and_self, Bool.true_and, if_true, if_false, reduceIte, Bool.false_eq_true, decide_true, decide_false, beq_self_eq_true, Bool.not_true, Bool.not_false, true_and, and_true, and_self, List.append_assoc, List.nil_append, List.cons_append, Int.toNat_natCast, ck, Int.cast_ofNat_Int, Int.reduceToNat, bne_self_eq_false, Bool.or_false, Bool.false_or, Bool.false_and, Bool.and_false, Bool.or_true, Bool.true_or]
      · have e : backL d p root j = [] := backL_no fun ⟨m, h1, h2, h3, h4, h5⟩ => by
          rcases Nat.lt_trichotomy m n with hl | hl | hl
          · exact (not_stop (hf m hl)).1 h5
          · exact he (hl ▸ h5)
          · exact h4 n hl hs
        have e2 : backOk d p root j = false := by unfold backOk; rw [e]; rfl
        have e1 : p (ch p j n).toNat = ch p j (n + 1) := rfl
        have e4 : (0 : Int) < (([] : List D).length : Int) ↔ False := by simp
        have nf : ¬ fitAt d p j n := hs.resolve_left he
        by_cases c1 : right (ch p j (n + 1)) = true
        · have h6 := right_nn c1
          by_cases c2 : has (seenS p j n) (ch p j (n + 1)) = true
          · simp (decide := true) only [he, h5, e1, right_ev, has_ev, c1, c2, h6, e, e2, e4, ints_nil, Try.f157, rid, kl157_6, gl157_0, ↓sBp, sBq, List.all_cons, List.all_nil, List.map_cons, List.map_nil, D.shape, Sh.sub, Sh.size, List.getElem?_cons_zero, List.getElem?_cons_succ, Option.bind_some, Option.bind_none, Option.getD_some, Option.getD_none, V.keysIn, V.kill, V.has, decide_eq_true_eq, beq_iff_eq, bne_iff_ne, ne_eq, Bool.not_eq_true', Bool.and_true, Bool.and_self, Bool.true_and, if_true, if_false, reduceIte, Bool.false_eq_true, decide_true, decide_false, beq_self_eq_true, Bool.not_true, Bool.not_false, true_and, and_true, and_self, List.append_assoc, List.nil_append, List.cons_append, Int.toNat_natCast, ck, Int.cast_ofNat_Int, Int.reduceToNat, bne_self_eq_false, Bool.or_false, Bool.false_or, Bool.false_and, Bool.and_false, Bool.or_true, Bool.true_or]
            rfl
          · have c2 : has (seenS p j n) (ch p j (n + 1)) = false := by simpa using c2
            have c3 : d (ch p j (n + 1)).toNat = 4294967295 := Classical.byContradiction fun h => nf ⟨c1, c2, h⟩
            simp (decide := true) only [he, h5, e1, right_ev, has_ev, c1, c2, c3, h6, e, e2, e4, ints_nil, Try.f157, rid, kl157_6, gl157_0, ↓sBp, sBq, List.all_cons, List.all_nil, List.map_cons, List.map_nil, D.shape, Sh.sub, Sh.size, List.getElem?_cons_zero, List.getElem?_cons_succ, Option.bind_some, Option.bind_none, Option.getD_some, Option.getD_none, V.keysIn, V.kill, V.has, decide_eq_true_eq, beq_iff_eq, bne_iff_ne, ne_eq, Bool.not_eq_true', Bool.and_true, Bool.and_self, Bool.true_and, if_true, if_false, reduceIte, Bool.false_eq_true, decide_true, decide_false, beq_self_eq_true, Bool.not_true, Bool.not_false, true_and, and_true, and_self, List.append_assoc, List.nil_append, List.cons_append, Int.toNat_natCast, ck, Int.cast_ofNat_Int, Int.reduceToNat, bne_self_eq_false, Bool.or_false, Bool.false_or, Bool.false_and, Bool.and_false, Bool.or_true, Bool.true_or]
            rfl
        · have c1 : right (ch p j (n + 1)) = false := by simpa using c1
          simp (decide := true) only [he, h5, e1, right_ev, c1, e, e2, e4, ints_nil, Try.f157, rid, kl157_6, gl157_0, ↓sBp, sBq, List.all_cons, List.all_nil, List.map_cons, List.map_nil, D.shape, Sh.sub, Sh.size, List.getElem?_cons_zero, List.getElem?_cons_succ, Option.bind_some, Option.bind_none, Option.getD_some, Option.getD_none, V.keysIn, V.kill, V.has, decide_eq_true_eq, beq_iff_eq, bne_iff_ne, ne_eq, Bool.not_eq_true', Bool.and_true, Bool.and_self, Bool.true_and, if_true, if_false, reduceIte, Bool.false_eq_true, decide_true, decide_false, beq_self_eq_true, Bool.not_true, Bool.not_false, true_and, and_true, and_self, List.append_assoc, List.nil_append, List.cons_append, Int.toNat_natCast, ck, Int.cast_ofNat_Int, Int.reduceToNat, bne_self_eq_false, Bool.or_false, Bool.false_or, Bool.false_and, Bool.and_false, Bool.or_true, Bool.true_or]
          rfl
  · have e : backL d p root j = [] := backL_no fun ⟨n, _, h, _⟩ => hr h
    have e2 : backOk d p root j = false := by unfold backOk; rw [e]; rfl
    simp (decide := true) only [right_ev, hr, e, e2, Try.f157, rid, kl157_6, gl157_0, ↓sBp, sBq, List.all_cons, List.all_nil, List.map_cons, List.map_nil, D.shape, Sh.sub, Sh.size, List.getElem?_cons_zero, List.getElem?_cons_succ, Option.bind_some, Option.bind_none, Option.getD_some, Option.getD_none, V.keysIn, V.kill, V.has, decide_eq_true_eq, beq_iff_eq, bne_iff_ne, ne_eq, Bool.not_eq_true', Bool.and_true, Bool.and_self, Bool.true_and, if_true, if_false, reduceIte, Bool.false_eq_true, decide_true, decide_false, beq_self_eq_true, Bool.not_true, Bool.not_false, true_and, and_true, and_self, List.append_assoc, List.nil_append, List.cons_append, Int.toNat_natCast, ck, Int.cast_ofNat_Int, Int.reduceToNat, bne_self_eq_false, Bool.or_false, Bool.false_or, Bool.false_and, Bool.and_false, Bool.or_true, Bool.true_or]
    rfl
end Go.Proofs.Ytfbaikkadndckaa.Ev
