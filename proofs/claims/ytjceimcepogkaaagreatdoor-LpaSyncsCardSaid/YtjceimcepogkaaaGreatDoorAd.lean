/- What the functions of walk compute: ways back. -/
import Derived.Test.YtjceimcepogkaaaGreatDoorTr
import Derived.Test.YtjceimcepogkaaaGreatDoorKd
namespace Go.Proofs.YtjceimcepogkaaaGreatDoor.Ev
open Go
attribute [local congr] ob_congr sq_congr cd_congr ite_congr1 iter_congr it1_congr jumps_congr
set_option maxRecDepth 100000
set_option linter.unusedSimpArgs false
set_option linter.unusedVariables false

/-- The way back, node by node. -/
def ch (p : Nat → Int) (j : Int) : Nat → Int
  | 0 => j
  | k + 1 => p (ch p j k).toNat
def seenS (p : Nat → Int) (j : Int) (k : Nat) : Int := upto (fun i s => withN s (ch p j (i + 1))) (withN 0 j) k
def wayTo (p : Nat → Int) (j : Int) (k : Nat) : List Int := (List.range (k + 1)).map (ch p j)
theorem wayTo_succ (p : Nat → Int) (j : Int) (k : Nat) : wayTo p j (k + 1) = wayTo p j k ++ [ch p j (k + 1)] := by
  unfold wayTo; rw [List.range_succ (n := k + 1), List.map_append]; rfl
theorem wayTo_len (p : Nat → Int) (j : Int) (k : Nat) : (wayTo p j k).length = k + 1 := by simp [wayTo]
def fitAt (d p : Nat → Int) (j : Int) (k : Nat) : Prop := right (ch p j (k + 1)) = true ∧ has (seenS p j k) (ch p j (k + 1)) = false ∧ d (ch p j (k + 1)).toNat ≠ 4294967295
def stopAt (d p : Nat → Int) (root j : Int) (k : Nat) : Prop := ch p j k = root ∨ ¬ fitAt d p j k

theorem pigeon : ∀ (n : Nat) (f : Nat → Nat), (∀ i, i ≤ n → f i < n) → (∀ i j, i < j → j ≤ n → f i ≠ f j) → False
  | 0, f, h, _ => by have := h 0 (Nat.le_refl _); omega
  | n + 1, f, h, hi => by
    refine pigeon n (fun i => if f i = n then f (n + 1) else f i) (fun i hn => ?_) (fun i j hij hj => ?_)
    · have h1 := h i (by omega)
      have h2 := h (n + 1) (by omega)
      have h3 := hi i (n + 1) (by omega) (by omega)
      show (if f i = n then f (n + 1) else f i) < n
      split <;> omega
    · have h1 := hi i j hij (by omega)
      have h2 := hi i (n + 1) (by omega) (by omega)
      have h3 := hi j (n + 1) (by omega) (by omega)
      show (if f i = n then f (n + 1) else f i) ≠ (if f j = n then f (n + 1) else f j)
      split <;> split <;> omega

theorem inI_seenS (p : Nat → Int) (j : Int) : ∀ k, inI (seenS p j k)
  | 0 => inI_withN inI_zero _
  | k + 1 => inI_withN (inI_seenS p j k) _
theorem has_withN {s : Int} (hs : inI s) (n m : Int) : has (withN s n) m = (has s m || (right n && decide (m = n))) := by
  rw [has_tb (inI_withN hs n), has_tb hs, tb_withN]
  by_cases hm : right m = true
  · by_cases hn : right n = true
    · have a := right_nn hm; have b := right_nn hn
      have : (decide (m.toNat = n.toNat)) = decide (m = n) := by simp; omega
      simp [hm, hn, this]
    · simp [hm, hn]
  · by_cases hn : right n = true
    · have : m ≠ n := fun e => hm (e ▸ hn)
      simp [hm, this]
    · simp [hm, hn]
theorem has_withoutN {s : Int} (hs : inI s) (n m : Int) : has (withoutN s n) m = (has s m && !(right n && decide (m = n))) := by
  rw [has_tb (inI_withoutN hs n), has_tb hs, tb_withoutN]
  by_cases hm : right m = true
  · by_cases hn : right n = true
    · have a := right_nn hm; have b := right_nn hn
      have : (decide (m.toNat = n.toNat)) = decide (m = n) := by simp; omega
      simp [hm, hn, this]
    · simp [hm, hn]
  · simp [hm]
theorem has_zero (m : Int) : has 0 m = false := by rw [has_tb inI_zero, tb_zero]; simp
theorem seen_mem (p : Nat → Int) (j : Int) : ∀ k i, i ≤ k → right (ch p j i) = true → has (seenS p j k) (ch p j i) = true
  | 0, i, hi, hr => by
    obtain rfl : i = 0 := by omega
    show has (withN 0 j) j = true
    rw [has_withN inI_zero, has_zero]
    have hr : right j = true := hr
    simp [hr]
  | k + 1, i, hi, hr => by
    show has (withN (seenS p j k) (ch p j (k + 1))) (ch p j i) = true
    rw [has_withN (inI_seenS p j k)]
    by_cases e : i = k + 1
    · subst e; simp [hr]
    · rw [seen_mem p j k i (by omega) hr]; rfl
theorem seen_iff (p : Nat → Int) (j : Int) : ∀ k m, has (seenS p j k) m = true → ∃ i, i ≤ k ∧ m = ch p j i ∧ right m = true
  | 0, m, h => by
    have h : has (withN 0 j) m = true := h
    rw [has_withN inI_zero, has_zero] at h
    simp at h
    exact ⟨0, Nat.le_refl _, h.2, h.2 ▸ h.1⟩
  | k + 1, m, h => by
    have h : has (withN (seenS p j k) (ch p j (k + 1))) m = true := h
    rw [has_withN (inI_seenS p j k), Bool.or_eq_true] at h
    rcases h with h | h
    · obtain ⟨i, hi, e, hr⟩ := seen_iff p j k m h
      exact ⟨i, by omega, e, hr⟩
    · simp at h
      exact ⟨k + 1, Nat.le_refl _, h.2, h.2 ▸ h.1⟩

theorem fit_right {d p : Nat → Int} {j : Int} (h0 : right j = true) {n : Nat} (h : ∀ k, k < n → fitAt d p j k) : ∀ k, k ≤ n → right (ch p j k) = true
  | 0, _ => h0
  | k + 1, hk => (h k (by omega)).1
theorem fit_ne {d p : Nat → Int} {j : Int} (h0 : right j = true) {n : Nat} (h : ∀ k, k < n → fitAt d p j k) (i k : Nat) (hik : i < k) (hk : k ≤ n) : ch p j i ≠ ch p j k := by
  intro e
  obtain ⟨k, rfl⟩ : ∃ m, k = m + 1 := ⟨k - 1, by omega⟩
  have h1 := (h k (by omega)).2.1
  have h2 := seen_mem p j k i (by omega) (fit_right h0 h i (by omega))
  rw [e, h1] at h2
  cases h2
theorem stop_ex (d p : Nat → Int) (root j : Int) (h0 : right j = true) : ∃ k, k < 16 ∧ stopAt d p root j k := by
  refine Classical.byContradiction fun hn => ?_
  have h : ∀ k, k < 16 → fitAt d p j k := fun k hk => Classical.byContradiction fun hf => hn ⟨k, hk, Or.inr hf⟩
  refine pigeon 16 (fun i => (ch p j i).toNat) (fun i hi => ?_) (fun i k hik hk => ?_)
  · have := right_nn (fit_right h0 h i hi); omega
  · have h1 := right_nn (fit_right h0 h i (by omega))
    have h2 := right_nn (fit_right h0 h k hk)
    have h3 := fit_ne h0 h i k hik hk
    show (ch p j i).toNat ≠ (ch p j k).toNat
    omega

open Classical in
noncomputable def backL (d p : Nat → Int) (root j : Int) : List Int :=
  if h : ∃ n, n < 16 ∧ right root = true ∧ gd d j ≠ 4294967295 ∧ (∀ k, k < n → ¬ stopAt d p root j k) ∧ ch p j n = root then wayTo p j h.choose else []
theorem not_stop {d p : Nat → Int} {root j : Int} {k : Nat} (h : ¬ stopAt d p root j k) : ch p j k ≠ root ∧ fitAt d p j k :=
  ⟨fun e => h (Or.inl e), Classical.byContradiction fun e => h (Or.inr e)⟩
theorem backL_of {d p : Nat → Int} {root j : Int} {n : Nat} (hn : n < 16) (hr : right root = true) (hj : gd d j ≠ 4294967295) (hs : ∀ k, k < n → ¬ stopAt d p root j k) (he : ch p j n = root) : backL d p root j = wayTo p j n := by
  have h : ∃ n, n < 16 ∧ right root = true ∧ gd d j ≠ 4294967295 ∧ (∀ k, k < n → ¬ stopAt d p root j k) ∧ ch p j n = root := ⟨n, hn, hr, hj, hs, he⟩
  unfold backL
  rw [dif_pos h]
  obtain ⟨h1, h2, h3, h4, h5⟩ := h.choose_spec
  congr 1
  rcases Nat.lt_trichotomy h.choose n with hl | hl | hl
  · exact absurd (Or.inl h5) (hs _ hl)
  · exact hl
  · exact absurd (Or.inl he) (h4 _ hl)
theorem backL_no {d p : Nat → Int} {root j : Int} (h : ¬ ∃ n, n < 16 ∧ right root = true ∧ gd d j ≠ 4294967295 ∧ (∀ k, k < n → ¬ stopAt d p root j k) ∧ ch p j n = root) : backL d p root j = [] := dif_neg h
theorem backL_cases (d p : Nat → Int) (root j : Int) : backL d p root j = [] ∨ ∃ n, n < 16 ∧ right root = true ∧ gd d j ≠ 4294967295 ∧ (∀ k, k < n → ¬ stopAt d p root j k) ∧ ch p j n = root ∧ backL d p root j = wayTo p j n := by
  by_cases h : ∃ n, n < 16 ∧ right root = true ∧ gd d j ≠ 4294967295 ∧ (∀ k, k < n → ¬ stopAt d p root j k) ∧ ch p j n = root
  · obtain ⟨n, h1, h2, h3, h4, h5⟩ := h
    exact Or.inr ⟨n, h1, h2, h3, h4, h5, backL_of h1 h2 h3 h4 h5⟩
  · exact Or.inl (backL_no h)
theorem backL_len (d p : Nat → Int) (root j : Int) : (backL d p root j).length ≤ 16 := by
  rcases backL_cases d p root j with h | ⟨n, h1, _, _, _, _, h⟩
  · rw [h]; simp
  · rw [h, wayTo_len]; omega
theorem gd_right {d : Nat → Int} {j : Int} (h : gd d j ≠ 4294967295) : right j = true := by
  by_cases e : right j = true
  · exact e
  · exact absurd (gd_no (by simpa using e)) h
noncomputable def backOk (d p : Nat → Int) (root j : Int) : Bool := decide (0 < ((backL d p root j).length : Int))
abbrev slI (l : List Int) : V := .sl .ro cI (ints l)

theorem back_ev (k : Nat) (d p : Nat → Int) (root j : Int) : evF Tryz.prog env xt (k+3) 148 [.d (treeD d p), .d (.s (.int .i64 (root))), .d (.s (.int .i64 (j)))] = some (.tcons (slI (backL d p root j)) (.tcons (.d (.s (.bool (backOk d p root j)))) .tnil)) := by
  rw [evF_eq Tryz.func148 (show Tryz.f148.body = some _ from rfl) rfl rfl rfl (by show 3 ≤ 56; decide)]
  by_cases hr : right root = true
  · by_cases hj : gd d j = 4294967295
    · have e : backL d p root j = [] := backL_no fun ⟨n, _, _, h, _⟩ => h hj
      have e2 : backOk d p root j = false := by unfold backOk; rw [e]; rfl
      simp (decide := true) only [right_ev, hr, get_ev, hj, e, e2, Tryz.f148, rid, kl148_6, gl148_0, ↓sBp, sBq, List.all_cons, List.all_nil, List.map_cons, List.map_nil, D.shape, Sh.sub, Sh.size, List.getElem?_cons_zero, List.getElem?_cons_succ, Option.bind_some, Option.bind_none, Option.getD_some, Option.getD_none, V.keysIn, V.kill, V.has, decide_eq_true_eq, beq_iff_eq, bne_iff_ne, ne_eq, Bool.not_eq_true', Bool.and_true, Bool.and_self, Bool.true_and, if_true, if_false, reduceIte, Bool.false_eq_true, decide_true, decide_false, beq_self_eq_true, Bool.not_true, Bool.not_false, true_and, and_true, and_self, List.append_assoc, List.nil_append, List.cons_append, Int.toNat_natCast, ck, Int.cast_ofNat_Int, Int.reduceToNat, bne_self_eq_false, Bool.or_false, Bool.false_or, Bool.false_and, Bool.and_false, Bool.or_true, Bool.true_or]
      rfl
    · have hrj := gd_right hj
      obtain ⟨n, hn, hs, hf⟩ := first_of (stop_ex d p root j hrj)
      have fit : ∀ k, k < n → fitAt d p j k := fun k hk => (not_stop (hf k hk)).2
      have hrc := fit_right hrj fit
      simp (decide := true) only [right_ev, hr, get_ev, hj, with_ev, rep1, Tryz.f148, rid, kl148_6, gl148_0, ↓sBp, sBq, List.all_cons, List.all_nil, List.map_cons, List.map_nil, D.shape, Sh.sub, Sh.size, List.getElem?_cons_zero, List.getElem?_cons_succ, Option.bind_some, Option.bind_none, Option.getD_some, Option.getD_none, V.keysIn, V.kill, V.has, decide_eq_true_eq, beq_iff_eq, bne_iff_ne, ne_eq, Bool.not_eq_true', Bool.and_true, Bool.and_self, Bool.true_and, if_true, if_false, reduceIte, Bool.false_eq_true, decide_true, decide_false, beq_self_eq_true, Bool.not_true, Bool.not_false, true_and, and_true, and_self, List.append_assoc, List.nil_append, List.cons_append, Int.toNat_natCast, ck, Int.cast_ofNat_Int, Int.reduceToNat, bne_self_eq_false, Bool.or_false, Bool.false_or, Bool.false_and, Bool.and_false, Bool.or_true, Bool.true_or]
      rw [iter_run (S := fun k => ⟨tab .junk [(1, .d (.s (.int .i64 (root)))), (3, .ptr 3 (shT) [] (shT)), (8, .sl (.tg 22) cI (ints (wayTo p j k))), (9, .d (.s (.int .i64 (seenS p j k)))), (10, .d (.s (.int .i64 (ch p j k))))], tab none [(3, some (.box (treeD d p))), (8, none), (22, some .row), (24, none), (48, none), (51, none)]⟩) (n := n) (h0 := ?h0) (hn := ?hn) (step := ?step)]
      case h0 => rfl
      case hn => exact lt_loopFuel (by omega)
      case step =>
        intro k hk
        obtain ⟨h1, h2, h3, h4⟩ := not_stop (hf k hk)
        have h5 := right_nn (hrc k (by omega))
        have h6 := right_nn h2
        have e1 : p (ch p j k).toNat = ch p j (k + 1) := rfl
        have e2 : withN (seenS p j k) (ch p j (k + 1)) = seenS p j (k + 1) := rfl
        have hl := wayTo_len p j k
        have hc := app_ok (sh := cI) (ints (wayTo p j k)) 8 (by omega) (by rw [ints_length]; omega)
        simp (decide := true) only [h1, h2, h3, h4, h5, h6, e1, e2, right_ev, has_ev, with_ev, rep1, List.length_singleton, hc, ints_snoc, wayTo_succ, Tryz.f148, rid, kl148_6, gl148_0, ↓sBp, sBq, List.all_cons, List.all_nil, List.map_cons, List.map_nil, D.shape, Sh.sub, Sh.size, List.getElem?_cons_zero, List.getElem?_cons_succ, Option.bind_some, Option.bind_none, Option.getD_some, Option.getD_none, V.keysIn, V.kill, V.has, decide_eq_true_eq, beq_iff_eq, bne_iff_ne, ne_eq, Bool.not_eq_true', Bool.and_true, Bool.and_self, Bool.true_and, if_true, if_false, reduceIte, Bool.false_eq_true, decide_true, decide_false, beq_self_eq_true, Bool.not_true, Bool.not_false, true_and, and_true, and_self, List.append_assoc, List.nil_append, List.cons_append, Int.toNat_natCast, ck, Int.cast_ofNat_Int, Int.reduceToNat, bne_self_eq_false, Bool.or_false, Bool.false_or, Bool.false_and, Bool.and_false, Bool.or_true, Bool.true_or]
      have h5 := right_nn (hrc n (by omega))
      rcases Classical.em (ch p j n = root) with he | he
      · have e := backL_of hn hr hj hf he
        have e2 : backOk d p root j = true := by unfold backOk; rw [e, wayTo_len]; simp
        have e3 : (0 : Int) < ((ints (wayTo p j n)).length : Int) := by rw [ints_length, wayTo_len]; omega
        simp (decide := true) only [he, e, e2, e3, Tryz.f148, rid, kl148_6, gl148_0, ↓sBp, sBq, List.all_cons, List.all_nil, List.map_cons, List.map_nil, D.shape, Sh.sub, Sh.size, List.getElem?_cons_zero, List.getElem?_cons_succ, Option.bind_some, Option.bind_none, Option.getD_some, Option.getD_none, V.keysIn, V.kill, V.has, decide_eq_true_eq, beq_iff_eq, bne_iff_ne, ne_eq, Bool.not_eq_true', Bool.and_true, Bool.and_self, Bool.true_and, if_true, if_false, reduceIte, Bool.false_eq_true, decide_true, decide_false, beq_self_eq_true, Bool.not_true, Bool.not_false, true_and, and_true, and_self, List.append_assoc, List.nil_append, List.cons_append, Int.toNat_natCast, ck, Int.cast_ofNat_Int, Int.reduceToNat, bne_self_eq_false, Bool.or_false, Bool.false_or, Bool.false_and, Bool.and_false, Bool.or_true, Bool.true_or]
      · have e : backL d p root j = [] := backL_no fun ⟨m, h1, h2, h3, h4, h5⟩ => by
          rcases Nat.lt_trichotomy m n with hl | hl | hl
          · exact (not_stop (hf m hl)).1 h5
          · exact he (hl ▸ h5)
          · exact h4 n hl hs
        have e2 : backOk d p root j = false := by unfold backOk; rw [e]; rfl
        have e1 : p (ch p j n).toNat = ch p j (n + 1) := rfl
        have e4 : (0 : Int) < (([] : List D).length : Int) ↔ False := by simp
        have nf : ¬ fitAt d p j n := hs.resolve_left he
        by_cases c1 : right (ch p j (n + 1)) = true
        · have h6 := right_nn c1
          by_cases c2 : has (seenS p j n) (ch p j (n + 1)) = true
          · simp (decide := true) only [he, h5, e1, right_ev, has_ev, c1, c2, h6, e, e2, e4, ints_nil, Tryz.f148, rid, kl148_6, gl148_0, ↓sBp, sBq, List.all_cons, List.all_nil, List.map_cons, List.map_nil, D.shape, Sh.sub, Sh.size, List.getElem?_cons_zero, List.getElem?_cons_succ, Option.bind_some, Option.bind_none, Option.getD_some, Option.getD_none, V.keysIn, V.kill, V.has, decide_eq_true_eq, beq_iff_eq, bne_iff_ne, ne_eq, Bool.not_eq_true', Bool.and_true, Bool.and_self, Bool.true_and, if_true, if_false, reduceIte, Bool.false_eq_true, decide_true, decide_false, beq_self_eq_true, Bool.not_true, Bool.not_false, true_and, and_true, and_self, List.append_assoc, List.nil_append, List.cons_append, Int.toNat_natCast, ck, Int.cast_ofNat_Int, Int.reduceToNat, bne_self_eq_false, Bool.or_false, Bool.false_or, Bool.false_and, Bool.and_false, Bool.or_true, Bool.true_or]
            rfl
          · have c2 : has (seenS p j n) (ch p j (n + 1)) = false := by simpa using c2
            have c3 : d (ch p j (n + 1)).toNat = 4294967295 := Classical.byContradiction fun h => nf ⟨c1, c2, h⟩
            simp (decide := true) only [he, h5, e1, right_ev, has_ev, c1, c2, c3, h6, e, e2, e4, ints_nil, Tryz.f148, rid, kl148_6, gl148_0, ↓sBp, sBq, List.all_cons, List.all_nil, List.map_cons, List.map_nil, D.shape, Sh.sub, Sh.size, List.getElem?_cons_zero, List.getElem?_cons_succ, Option.bind_some, Option.bind_none, Option.getD_some, Option.getD_none, V.keysIn, V.kill, V.has, decide_eq_true_eq, beq_iff_eq, bne_iff_ne, ne_eq, Bool.not_eq_true', Bool.and_true, Bool.and_self, Bool.true_and, if_true, if_false, reduceIte, Bool.false_eq_true, decide_true, decide_false, beq_self_eq_true, Bool.not_true, Bool.not_false, true_and, and_true, and_self, List.append_assoc, List.nil_append, List.cons_append, Int.toNat_natCast, ck, Int.cast_ofNat_Int, Int.reduceToNat, bne_self_eq_false, Bool.or_false, Bool.false_or, Bool.false_and, Bool.and_false, Bool.or_true, Bool.true_or]
            rfl
        · have c1 : right (ch p j (n + 1)) = false := by simpa using c1
          simp (decide := true) only [he, h5, e1, right_ev, c1, e, e2, e4, ints_nil, Tryz.f148, rid, kl148_6, gl148_0, ↓sBp, sBq, List.all_cons, List.all_nil, List.map_cons, List.map_nil, D.shape, Sh.sub, Sh.size, List.getElem?_cons_zero, List.getElem?_cons_succ, Option.bind_some, Option.bind_none, Option.getD_some, Option.getD_none, V.keysIn, V.kill, V.has, decide_eq_true_eq, beq_iff_eq, bne_iff_ne, ne_eq, Bool.not_eq_true', Bool.and_true, Bool.and_self, Bool.true_and, if_true, if_false, reduceIte, Bool.false_eq_true, decide_true, decide_false, beq_self_eq_true, Bool.not_true, Bool.not_false, true_and, and_true, and_self, List.append_assoc, List.nil_append, List.cons_append, Int.toNat_natCast, ck, Int.cast_ofNat_Int, Int.reduceToNat, bne_self_eq_false, Bool.or_false, Bool.false_or, Bool.false_and, Bool.and_false, Bool.or_true, Bool.true_or]
          rfl
  · have e : backL d p root j = [] := backL_no fun ⟨n, _, h, _⟩ => hr h
    have e2 : backOk d p root j = false := by unfold backOk; rw [e]; rfl
    simp (decide := true) only [right_ev, hr, e, e2, Tryz.f148, rid, kl148_6, gl148_0, ↓sBp, sBq, List.all_cons, List.all_nil, List.map_cons, List.map_nil, D.shape, Sh.sub, Sh.size, List.getElem?_cons_zero, List.getElem?_cons_succ, Option.bind_some, Option.bind_none, Option.getD_some, Option.getD_none, V.keysIn, V.kill, V.has, decide_eq_true_eq, beq_iff_eq, bne_iff_ne, ne_eq, Bool.not_eq_true', Bool.and_true, Bool.and_self, Bool.true_and, if_true, if_false, reduceIte, Bool.false_eq_true, decide_true, decide_false, beq_self_eq_true, Bool.not_true, Bool.not_false, true_and, and_true, and_self, List.append_assoc, List.nil_append, List.cons_append, Int.toNat_natCast, ck, Int.cast_ofNat_Int, Int.reduceToNat, bne_self_eq_false, Bool.or_false, Bool.false_or, Bool.false_and, Bool.and_false, Bool.or_true, Bool.true_or]
    rfl
end Go.Proofs.YtjceimcepogkaaaGreatDoor.Ev
/- What the functions of walk compute: hops, children, what is below, where two meet, the order, the leaves; the document's ways back. -/
namespace Go.Proofs.YtjceimcepogkaaaGreatDoor.Ev
open Go
attribute [local congr] ob_congr sq_congr cd_congr ite_congr1 iter_congr it1_congr jumps_congr
set_option maxRecDepth 100000
set_option linter.unusedSimpArgs false
set_option linter.unusedVariables false


noncomputable def hopsF (d p : Nat → Int) (root j : Int) : Int := ((backL d p root j).length : Int) - 1
theorem hops_wrap (d p : Nat → Int) (root j : Int) : IntKind.i64.wrap (((backL d p root j).length : Int) - 1) = hopsF d p root j := by
  have := backL_len d p root j
  unfold hopsF; exact wrap_id ⟨by omega, by omega⟩
theorem backOk_iff (d p : Nat → Int) (root j : Int) : backOk d p root j = true ↔ backL d p root j ≠ [] := by
  unfold backOk
  rw [decide_eq_true_iff, ← List.length_pos_iff]
  omega
theorem hops_ev (k : Nat) (d p : Nat → Int) (root j : Int) : evF Tryz.prog env xt (k+4) 137 [.d (treeD d p), .d (.s (.int .i64 (root))), .d (.s (.int .i64 (j)))] = some (.d (.s (.int .i64 (hopsF d p root j)))) := by
  rw [evF_eq Tryz.func137 (show Tryz.f137.body = some _ from rfl) rfl rfl rfl (by show 3 ≤ 19; decide)]
  simp (decide := true) only [back_ev, ints_length, hops_wrap, Tryz.f137, rid, ↓sBp, sBq, List.all_cons, List.all_nil, List.map_cons, List.map_nil, D.shape, Sh.sub, Sh.size, List.getElem?_cons_zero, List.getElem?_cons_succ, Option.bind_some, Option.bind_none, Option.getD_some, Option.getD_none, V.keysIn, V.kill, V.has, decide_eq_true_eq, beq_iff_eq, bne_iff_ne, ne_eq, Bool.not_eq_true', Bool.and_true, Bool.and_self, Bool.true_and, if_true, if_false, reduceIte, Bool.false_eq_true, decide_true, decide_false, beq_self_eq_true, Bool.not_true, Bool.not_false, true_and, and_true, and_self, List.append_assoc, List.nil_append, List.cons_append, Int.toNat_natCast, ck, Int.cast_ofNat_Int, Int.reduceToNat, bne_self_eq_false, Bool.or_false, Bool.false_or, Bool.false_and, Bool.and_false, Bool.or_true, Bool.true_or]

def childC (d p : Nat → Int) (n : Int) (k : Nat) : Bool := right n && ((k : Int) != n && (p k == n && d k != 4294967295))
def childF (d p : Nat → Int) (n : Int) : Int := setOf (childC d p n) 16
theorem setOf_none {c : Nat → Bool} (h : ∀ k, c k = false) : ∀ n, setOf c n = 0
  | 0 => rfl
  | n + 1 => by
    show (if c n = true then withN (setOf c n) n else setOf c n) = 0
    rw [h n]; simpa using setOf_none h n


noncomputable def belowC (d p : Nat → Int) (root n : Int) (k : Nat) : Bool := decide (n ∈ backL d p root k)
noncomputable def belowF (d p : Nat → Int) (root n : Int) : Int := setOf (belowC d p root n) 16
theorem back_small (d p : Nat → Int) (root j : Int) : (backL d p root j).length < 1000000 := Nat.lt_of_le_of_lt (backL_len d p root j) (by omega)
end Go.Proofs.YtjceimcepogkaaaGreatDoor.Ev
/- What the functions of adds compute: weights, and whether a tree adds up. -/
namespace Go.Proofs.YtjceimcepogkaaaGreatDoor.Ev
open Go
attribute [local congr] ob_congr sq_congr cd_congr ite_congr1 iter_congr it1_congr jumps_congr
set_option maxRecDepth 100000
set_option linter.unusedSimpArgs false
set_option linter.unusedVariables false

def wOk (d p : Nat → Int) (j : Int) : Bool := (gd d j != 4294967295) && (right (gp p j) && ((d (gp p j).toNat != 4294967295) && decide (d (gp p j).toNat < gd d j)))
def wV (d p : Nat → Int) (j : Int) : Int := if wOk d p j = true then IntKind.u32.wrap (gd d j - d (gp p j).toNat) else 0
abbrev wR (d p : Nat → Int) (j : Int) : V := .tcons (.d (.s (.int .u32 (wV d p j)))) (.tcons (.d (.s (.bool (wOk d p j)))) .tnil)
theorem weight_ev (k : Nat) (d p : Nat → Int) (j : Int) : evF Tryz.prog env xt (k+3) 136 [.d (treeD d p), .d (.s (.int .i64 (j)))] = some (wR d p j) := by
  rw [evF_eq Tryz.func136 (show Tryz.f136.body = some _ from rfl) rfl rfl rfl (by show 2 ≤ 37; decide)]
  rcases Bool.eq_false_or_eq_true (gd d j != 4294967295) with h1 | h1
  · have h1' : (gd d j == 4294967295) = false := by simpa [bne] using h1
    rcases Bool.eq_false_or_eq_true (right (gp p j)) with h2 | h2
    · have h22 := right_nn h2
      rcases Bool.eq_false_or_eq_true (d (gp p j).toNat != 4294967295) with h3 | h3
      · have h3' : (d (gp p j).toNat == 4294967295) = false := by simpa [bne] using h3
        by_cases h4 : d (gp p j).toNat < gd d j
        · have h4' : ¬ gd d j ≤ d (gp p j).toNat := by omega
          simp (decide := true) only [get_ev, right_ev, h1, h1', h2, h22, h3, h3', h4, h4', wV, wOk, wR, Tryz.f136, rid, ↓sBp, sBq, List.all_cons, List.all_nil, List.map_cons, List.map_nil, D.shape, Sh.sub, Sh.size, List.getElem?_cons_zero, List.getElem?_cons_succ, Option.bind_some, Option.bind_none, Option.getD_some, Option.getD_none, V.keysIn, V.kill, V.has, decide_eq_true_eq, beq_iff_eq, bne_iff_ne, ne_eq, Bool.not_eq_true', Bool.and_true, Bool.and_self, Bool.true_and, if_true, if_false, reduceIte, Bool.false_eq_true, decide_true, decide_false, beq_self_eq_true, Bool.not_true, Bool.not_false, true_and, and_true, and_self, List.append_assoc, List.nil_append, List.cons_append, Int.toNat_natCast, ck, Int.cast_ofNat_Int, Int.reduceToNat, bne_self_eq_false, Bool.or_false, Bool.false_or, Bool.false_and, Bool.and_false, Bool.or_true, Bool.true_or]
        · have h4' : gd d j ≤ d (gp p j).toNat := by omega
          simp (decide := true) only [get_ev, right_ev, h1, h1', h2, h22, h3, h3', h4, h4', wV, wOk, wR, Tryz.f136, rid, ↓sBp, sBq, List.all_cons, List.all_nil, List.map_cons, List.map_nil, D.shape, Sh.sub, Sh.size, List.getElem?_cons_zero, List.getElem?_cons_succ, Option.bind_some, Option.bind_none, Option.getD_some, Option.getD_none, V.keysIn, V.kill, V.has, decide_eq_true_eq, beq_iff_eq, bne_iff_ne, ne_eq, Bool.not_eq_true', Bool.and_true, Bool.and_self, Bool.true_and, if_true, if_false, reduceIte, Bool.false_eq_true, decide_true, decide_false, beq_self_eq_true, Bool.not_true, Bool.not_false, true_and, and_true, and_self, List.append_assoc, List.nil_append, List.cons_append, Int.toNat_natCast, ck, Int.cast_ofNat_Int, Int.reduceToNat, bne_self_eq_false, Bool.or_false, Bool.false_or, Bool.false_and, Bool.and_false, Bool.or_true, Bool.true_or]
      · have h3' : (d (gp p j).toNat == 4294967295) = true := by simpa [bne] using h3
        simp (decide := true) only [get_ev, right_ev, h1, h1', h2, h22, h3, h3', wV, wOk, wR, Tryz.f136, rid, ↓sBp, sBq, List.all_cons, List.all_nil, List.map_cons, List.map_nil, D.shape, Sh.sub, Sh.size, List.getElem?_cons_zero, List.getElem?_cons_succ, Option.bind_some, Option.bind_none, Option.getD_some, Option.getD_none, V.keysIn, V.kill, V.has, decide_eq_true_eq, beq_iff_eq, bne_iff_ne, ne_eq, Bool.not_eq_true', Bool.and_true, Bool.and_self, Bool.true_and, if_true, if_false, reduceIte, Bool.false_eq_true, decide_true, decide_false, beq_self_eq_true, Bool.not_true, Bool.not_false, true_and, and_true, and_self, List.append_assoc, List.nil_append, List.cons_append, Int.toNat_natCast, ck, Int.cast_ofNat_Int, Int.reduceToNat, bne_self_eq_false, Bool.or_false, Bool.false_or, Bool.false_and, Bool.and_false, Bool.or_true, Bool.true_or]
    · simp (decide := true) only [get_ev, right_ev, h1, h1', h2, wV, wOk, wR, Tryz.f136, rid, ↓sBp, sBq, List.all_cons, List.all_nil, List.map_cons, List.map_nil, D.shape, Sh.sub, Sh.size, List.getElem?_cons_zero, List.getElem?_cons_succ, Option.bind_some, Option.bind_none, Option.getD_some, Option.getD_none, V.keysIn, V.kill, V.has, decide_eq_true_eq, beq_iff_eq, bne_iff_ne, ne_eq, Bool.not_eq_true', Bool.and_true, Bool.and_self, Bool.true_and, if_true, if_false, reduceIte, Bool.false_eq_true, decide_true, decide_false, beq_self_eq_true, Bool.not_true, Bool.not_false, true_and, and_true, and_self, List.append_assoc, List.nil_append, List.cons_append, Int.toNat_natCast, ck, Int.cast_ofNat_Int, Int.reduceToNat, bne_self_eq_false, Bool.or_false, Bool.false_or, Bool.false_and, Bool.and_false, Bool.or_true, Bool.true_or]
  · have h1' : (gd d j == 4294967295) = true := by simpa [bne] using h1
    simp (decide := true) only [get_ev, right_ev, h1, h1', wV, wOk, wR, Tryz.f136, rid, ↓sBp, sBq, List.all_cons, List.all_nil, List.map_cons, List.map_nil, D.shape, Sh.sub, Sh.size, List.getElem?_cons_zero, List.getElem?_cons_succ, Option.bind_some, Option.bind_none, Option.getD_some, Option.getD_none, V.keysIn, V.kill, V.has, decide_eq_true_eq, beq_iff_eq, bne_iff_ne, ne_eq, Bool.not_eq_true', Bool.and_true, Bool.and_self, Bool.true_and, if_true, if_false, reduceIte, Bool.false_eq_true, decide_true, decide_false, beq_self_eq_true, Bool.not_true, Bool.not_false, true_and, and_true, and_self, List.append_assoc, List.nil_append, List.cons_append, Int.toNat_natCast, ck, Int.cast_ofNat_Int, Int.reduceToNat, bne_self_eq_false, Bool.or_false, Bool.false_or, Bool.false_and, Bool.and_false, Bool.or_true, Bool.true_or]
theorem rweight_ev (k : Nat) (d p : Nat → Int) (j : Int) : evF Tryz.prog env xt (k+3) 141 [.d (treeD d p), .d (.s (.int .i64 (j)))] = some (wR d p j) := by
  rw [evF_eq Tryz.func141 (show Tryz.f141.body = some _ from rfl) rfl rfl rfl (by show 2 ≤ 41; decide)]
  rcases Bool.eq_false_or_eq_true (gd d j != 4294967295) with h1 | h1
  · have h1' : (gd d j == 4294967295) = false := by simpa [bne] using h1
    rcases Bool.eq_false_or_eq_true (right (gp p j)) with h2 | h2
    · have h5 : gd d (gp p j) = d (gp p j).toNat := gd_of h2
      rcases Bool.eq_false_or_eq_true (d (gp p j).toNat != 4294967295) with h3 | h3
      · have h3' : (d (gp p j).toNat == 4294967295) = false := by simpa [bne] using h3
        by_cases h4 : d (gp p j).toNat < gd d j
        · have h4' : ¬ gd d j ≤ d (gp p j).toNat := by omega
          simp (decide := true) only [rget_ev, rright_ev, h1, h1', h2, h3, h3', h4, h4', h5, wV, wOk, wR, Tryz.f141, rid, ↓sBp, sBq, List.all_cons, List.all_nil, List.map_cons, List.map_nil, D.shape, Sh.sub, Sh.size, List.getElem?_cons_zero, List.getElem?_cons_succ, Option.bind_some, Option.bind_none, Option.getD_some, Option.getD_none, V.keysIn, V.kill, V.has, decide_eq_true_eq, beq_iff_eq, bne_iff_ne, ne_eq, Bool.not_eq_true', Bool.and_true, Bool.and_self, Bool.true_and, if_true, if_false, reduceIte, Bool.false_eq_true, decide_true, decide_false, beq_self_eq_true, Bool.not_true, Bool.not_false, true_and, and_true, and_self, List.append_assoc, List.nil_append, List.cons_append, Int.toNat_natCast, ck, Int.cast_ofNat_Int, Int.reduceToNat, bne_self_eq_false, Bool.or_false, Bool.false_or, Bool.false_and, Bool.and_false, Bool.or_true, Bool.true_or]
        · have h4' : gd d j ≤ d (gp p j).toNat := by omega
          simp (decide := true) only [rget_ev, rright_ev, h1, h1', h2, h3, h3', h4, h4', h5, wV, wOk, wR, Tryz.f141, rid, ↓sBp, sBq, List.all_cons, List.all_nil, List.map_cons, List.map_nil, D.shape, Sh.sub, Sh.size, List.getElem?_cons_zero, List.getElem?_cons_succ, Option.bind_some, Option.bind_none, Option.getD_some, Option.getD_none, V.keysIn, V.kill, V.has, decide_eq_true_eq, beq_iff_eq, bne_iff_ne, ne_eq, Bool.not_eq_true', Bool.and_true, Bool.and_self, Bool.true_and, if_true, if_false, reduceIte, Bool.false_eq_true, decide_true, decide_false, beq_self_eq_true, Bool.not_true, Bool.not_false, true_and, and_true, and_self, List.append_assoc, List.nil_append, List.cons_append, Int.toNat_natCast, ck, Int.cast_ofNat_Int, Int.reduceToNat, bne_self_eq_false, Bool.or_false, Bool.false_or, Bool.false_and, Bool.and_false, Bool.or_true, Bool.true_or]
      · have h3' : (d (gp p j).toNat == 4294967295) = true := by simpa [bne] using h3
        simp (decide := true) only [rget_ev, rright_ev, h1, h1', h2, h3, h3', h5, wV, wOk, wR, Tryz.f141, rid, ↓sBp, sBq, List.all_cons, List.all_nil, List.map_cons, List.map_nil, D.shape, Sh.sub, Sh.size, List.getElem?_cons_zero, List.getElem?_cons_succ, Option.bind_some, Option.bind_none, Option.getD_some, Option.getD_none, V.keysIn, V.kill, V.has, decide_eq_true_eq, beq_iff_eq, bne_iff_ne, ne_eq, Bool.not_eq_true', Bool.and_true, Bool.and_self, Bool.true_and, if_true, if_false, reduceIte, Bool.false_eq_true, decide_true, decide_false, beq_self_eq_true, Bool.not_true, Bool.not_false, true_and, and_true, and_self, List.append_assoc, List.nil_append, List.cons_append, Int.toNat_natCast, ck, Int.cast_ofNat_Int, Int.reduceToNat, bne_self_eq_false, Bool.or_false, Bool.false_or, Bool.false_and, Bool.and_false, Bool.or_true, Bool.true_or]
    · simp (decide := true) only [rget_ev, rright_ev, h1, h1', h2, wV, wOk, wR, Tryz.f141, rid, ↓sBp, sBq, List.all_cons, List.all_nil, List.map_cons, List.map_nil, D.shape, Sh.sub, Sh.size, List.getElem?_cons_zero, List.getElem?_cons_succ, Option.bind_some, Option.bind_none, Option.getD_some, Option.getD_none, V.keysIn, V.kill, V.has, decide_eq_true_eq, beq_iff_eq, bne_iff_ne, ne_eq, Bool.not_eq_true', Bool.and_true, Bool.and_self, Bool.true_and, if_true, if_false, reduceIte, Bool.false_eq_true, decide_true, decide_false, beq_self_eq_true, Bool.not_true, Bool.not_false, true_and, and_true, and_self, List.append_assoc, List.nil_append, List.cons_append, Int.toNat_natCast, ck, Int.cast_ofNat_Int, Int.reduceToNat, bne_self_eq_false, Bool.or_false, Bool.false_or, Bool.false_and, Bool.and_false, Bool.or_true, Bool.true_or]
  · have h1' : (gd d j == 4294967295) = true := by simpa [bne] using h1
    simp (decide := true) only [rget_ev, rright_ev, h1, h1', wV, wOk, wR, Tryz.f141, rid, ↓sBp, sBq, List.all_cons, List.all_nil, List.map_cons, List.map_nil, D.shape, Sh.sub, Sh.size, List.getElem?_cons_zero, List.getElem?_cons_succ, Option.bind_some, Option.bind_none, Option.getD_some, Option.getD_none, V.keysIn, V.kill, V.has, decide_eq_true_eq, beq_iff_eq, bne_iff_ne, ne_eq, Bool.not_eq_true', Bool.and_true, Bool.and_self, Bool.true_and, if_true, if_false, reduceIte, Bool.false_eq_true, decide_true, decide_false, beq_self_eq_true, Bool.not_true, Bool.not_false, true_and, and_true, and_self, List.append_assoc, List.nil_append, List.cons_append, Int.toNat_natCast, ck, Int.cast_ofNat_Int, Int.reduceToNat, bne_self_eq_false, Bool.or_false, Bool.false_or, Bool.false_and, Bool.and_false, Bool.or_true, Bool.true_or]

noncomputable def fitsF (d p : Nat → Int) (root : Int) (j : Nat) : Bool := if d j = 4294967295 then p j == -1 else wOk d p j && (decide (wV d p j ≤ 65536) && decide (1 ≤ hopsF d p root j))
theorem fits_ev (k : Nat) (d p : Nat → Int) (root : Int) (j : Nat) (hj : j < 16) : evF Tryz.prog env xt (k+5) 123 [.d (treeD d p), .d (.s (.int .i64 (root))), .d (.s (.int .i64 (j)))] = some (.d (.s (.bool (fitsF d p root j)))) := by
  rw [evF_eq Tryz.func123 (show Tryz.f123.body = some _ from rfl) rfl rfl rfl (by show 3 ≤ 37; decide)]
  have hk1 : (j : Int) < 16 := by omega
  have hk0 : (0 : Int) ≤ j := by omega
  by_cases h : d j = 4294967295
  · simp (decide := true) only [hk1, hk0, h, fitsF, Tryz.f123, rid, ↓sBp, sBq, List.all_cons, List.all_nil, List.map_cons, List.map_nil, D.shape, Sh.sub, Sh.size, List.getElem?_cons_zero, List.getElem?_cons_succ, Option.bind_some, Option.bind_none, Option.getD_some, Option.getD_none, V.keysIn, V.kill, V.has, decide_eq_true_eq, beq_iff_eq, bne_iff_ne, ne_eq, Bool.not_eq_true', Bool.and_true, Bool.and_self, Bool.true_and, if_true, if_false, reduceIte, Bool.false_eq_true, decide_true, decide_false, beq_self_eq_true, Bool.not_true, Bool.not_false, true_and, and_true, and_self, List.append_assoc, List.nil_append, List.cons_append, Int.toNat_natCast, ck, Int.cast_ofNat_Int, Int.reduceToNat, bne_self_eq_false, Bool.or_false, Bool.false_or, Bool.false_and, Bool.and_false, Bool.or_true, Bool.true_or]
  · rcases Bool.eq_false_or_eq_true (wOk d p j) with h2 | h2
    · by_cases h3 : wV d p j ≤ 65536
      · have h4 : (1 ≤ hopsF d p root j) = (hopsF d p root j ≥ 1) := rfl
        simp (decide := true) only [hk1, hk0, h, weight_ev, hops_ev, h2, h3, fitsF, Tryz.f123, rid, ↓sBp, sBq, List.all_cons, List.all_nil, List.map_cons, List.map_nil, D.shape, Sh.sub, Sh.size, List.getElem?_cons_zero, List.getElem?_cons_succ, Option.bind_some, Option.bind_none, Option.getD_some, Option.getD_none, V.keysIn, V.kill, V.has, decide_eq_true_eq, beq_iff_eq, bne_iff_ne, ne_eq, Bool.not_eq_true', Bool.and_true, Bool.and_self, Bool.true_and, if_true, if_false, reduceIte, Bool.false_eq_true, decide_true, decide_false, beq_self_eq_true, Bool.not_true, Bool.not_false, true_and, and_true, and_self, List.append_assoc, List.nil_append, List.cons_append, Int.toNat_natCast, ck, Int.cast_ofNat_Int, Int.reduceToNat, bne_self_eq_false, Bool.or_false, Bool.false_or, Bool.false_and, Bool.and_false, Bool.or_true, Bool.true_or]
      · simp (decide := true) only [hk1, hk0, h, weight_ev, hops_ev, h2, h3, fitsF, Tryz.f123, rid, ↓sBp, sBq, List.all_cons, List.all_nil, List.map_cons, List.map_nil, D.shape, Sh.sub, Sh.size, List.getElem?_cons_zero, List.getElem?_cons_succ, Option.bind_some, Option.bind_none, Option.getD_some, Option.getD_none, V.keysIn, V.kill, V.has, decide_eq_true_eq, beq_iff_eq, bne_iff_ne, ne_eq, Bool.not_eq_true', Bool.and_true, Bool.and_self, Bool.true_and, if_true, if_false, reduceIte, Bool.false_eq_true, decide_true, decide_false, beq_self_eq_true, Bool.not_true, Bool.not_false, true_and, and_true, and_self, List.append_assoc, List.nil_append, List.cons_append, Int.toNat_natCast, ck, Int.cast_ofNat_Int, Int.reduceToNat, bne_self_eq_false, Bool.or_false, Bool.false_or, Bool.false_and, Bool.and_false, Bool.or_true, Bool.true_or]
    · simp (decide := true) only [hk1, hk0, h, weight_ev, hops_ev, h2, fitsF, Tryz.f123, rid, ↓sBp, sBq, List.all_cons, List.all_nil, List.map_cons, List.map_nil, D.shape, Sh.sub, Sh.size, List.getElem?_cons_zero, List.getElem?_cons_succ, Option.bind_some, Option.bind_none, Option.getD_some, Option.getD_none, V.keysIn, V.kill, V.has, decide_eq_true_eq, beq_iff_eq, bne_iff_ne, ne_eq, Bool.not_eq_true', Bool.and_true, Bool.and_self, Bool.true_and, if_true, if_false, reduceIte, Bool.false_eq_true, decide_true, decide_false, beq_self_eq_true, Bool.not_true, Bool.not_false, true_and, and_true, and_self, List.append_assoc, List.nil_append, List.cons_append, Int.toNat_natCast, ck, Int.cast_ofNat_Int, Int.reduceToNat, bne_self_eq_false, Bool.or_false, Bool.false_or, Bool.false_and, Bool.and_false, Bool.or_true, Bool.true_or]
noncomputable def soundF (d p : Nat → Int) (root : Int) : Bool := right root && ((rootF d == root) && ((p root.toNat == -1) && (List.range 16).all fun j => ((j : Int) == root) || fitsF d p root j))
theorem sound_ev (k : Nat) (d p : Nat → Int) (root : Int) : evF Tryz.prog env xt (k+6) 80 [.d (treeD d p), .d (.s (.int .i64 (root)))] = some (.d (.s (.bool (soundF d p root)))) := by
  rw [evF_eq Tryz.func80 (show Tryz.f80.body = some _ from rfl) rfl rfl rfl (by show 2 ≤ 36; decide)]
  rcases Bool.eq_false_or_eq_true (right root) with hr | hr
  · have hr2 := right_nn hr
    rcases Bool.eq_false_or_eq_true (rootF d == root) with h1 | h1
    · have h1' : (rootF d != root) = false := by simp [bne, h1]
      rcases Bool.eq_false_or_eq_true (p root.toNat == -1) with h2 | h2
      · have h2' : (p root.toNat != -1) = false := by simp [bne, h2]
        by_cases he : ∃ m : Nat, m < 16 ∧ ¬ ((m : Int) = root ∨ fitsF d p root m = true)
        · obtain ⟨m, hm, hbad, hf⟩ := first_of (p := fun m : Nat => ¬ ((m : Int) = root ∨ fitsF d p root m = true)) he
          have e : soundF d p root = false := by
            unfold soundF
            have : ((List.range 16).all fun j => ((j : Int) == root) || fitsF d p root j) = false := by
              rw [List.all_eq_false]
              exact ⟨m, by simpa using hm, by simpa using hbad⟩
            simp [this]
          rw [e]
          have gd : ∀ i : Nat, i < m → ((i : Int) = root ∨ fitsF d p root i = true) := fun i hi => Classical.byContradiction (hf i hi)
          have hbad1 : ((m : Int) != root) = true := bne_iff_ne.2 fun e => hbad (Or.inl e)
          have hbad2 : fitsF d p root m = false := by simpa using fun h => hbad (Or.inr h)
          have fe := fun K (i : Nat) (hi : i < 16) => fits_ev K d p root i hi
          by_cases hm0 : m = 0
          · subst hm0
            have fe : ∀ K, evF Tryz.prog env xt (K+5) 123 [.d (treeD d p), .d (.s (.int .i64 (root))), .d (.s (.int .i64 (0)))] = some (.d (.s (.bool (fitsF d p root 0)))) := fun K => fe K 0 (by omega)
            have hbad1 : ((0 : Int) != root) = true := hbad1
            simp (decide := true) only [right_ev, hr, hr2, root_ev, h1, h1', h2, h2', hbad1, hbad2, fe, Int.ofNat_zero, Int.natCast_zero, Tryz.f80, rid, gl80_0, ↓sBp, sBq, List.all_cons, List.all_nil, List.map_cons, List.map_nil, D.shape, Sh.sub, Sh.size, List.getElem?_cons_zero, List.getElem?_cons_succ, Option.bind_some, Option.bind_none, Option.getD_some, Option.getD_none, V.keysIn, V.kill, V.has, decide_eq_true_eq, beq_iff_eq, bne_iff_ne, ne_eq, Bool.not_eq_true', Bool.and_true, Bool.and_self, Bool.true_and, if_true, if_false, reduceIte, Bool.false_eq_true, decide_true, decide_false, beq_self_eq_true, Bool.not_true, Bool.not_false, true_and, and_true, and_self, List.append_assoc, List.nil_append, List.cons_append, Int.toNat_natCast, ck, Int.cast_ofNat_Int, Int.reduceToNat, bne_self_eq_false, Bool.or_false, Bool.false_or, Bool.false_and, Bool.and_false, Bool.or_true, Bool.true_or]
          · have fe0 : ∀ K, evF Tryz.prog env xt (K+5) 123 [.d (treeD d p), .d (.s (.int .i64 (root))), .d (.s (.int .i64 (0)))] = some (.d (.s (.bool (fitsF d p root 0)))) := fun K => fe K 0 (by omega)
            have stp : ∀ j : Nat, j < m → ((((j : Int) != root) = false ∧ True) ∨ (((j : Int) != root) = true ∧ fitsF d p root j = true)) := fun j hj => by
              by_cases e : (j : Int) = root
              · exact Or.inl ⟨by simp [e], trivial⟩
              · exact Or.inr ⟨by simpa using e, (gd j hj).resolve_left e⟩
            have s0 : ((((0 : Int) != root) = false ∧ True) ∨ (((0 : Int) != root) = true ∧ fitsF d p root 0 = true)) := stp 0 (by omega)
            rcases s0 with ⟨q, q'⟩ | ⟨q, q'⟩ <;>
            · simp (decide := true) only [right_ev, hr, hr2, root_ev, h1, h1', h2, h2', q, q', fe0, Int.ofNat_zero, Int.natCast_zero, Tryz.f80, rid, gl80_0, ↓sBp, sBq, List.all_cons, List.all_nil, List.map_cons, List.map_nil, D.shape, Sh.sub, Sh.size, List.getElem?_cons_zero, List.getElem?_cons_succ, Option.bind_some, Option.bind_none, Option.getD_some, Option.getD_none, V.keysIn, V.kill, V.has, decide_eq_true_eq, beq_iff_eq, bne_iff_ne, ne_eq, Bool.not_eq_true', Bool.and_true, Bool.and_self, Bool.true_and, if_true, if_false, reduceIte, Bool.false_eq_true, decide_true, decide_false, beq_self_eq_true, Bool.not_true, Bool.not_false, true_and, and_true, and_self, List.append_assoc, List.nil_append, List.cons_append, Int.toNat_natCast, ck, Int.cast_ofNat_Int, Int.reduceToNat, bne_self_eq_false, Bool.or_false, Bool.false_or, Bool.false_and, Bool.and_false, Bool.or_true, Bool.true_or]
              rw [jumps_run (l := 0) (S := fun k => ⟨tab .junk [(1, .d (.s (.int .i64 (root)))), (2, .ptr 2 (shT) [] (shT)), (5, .d (.s (.int .i64 ((k + 1 : Nat)))))], tab none [(2, some (.box (treeD d p)))]⟩) (n := m - 1) (h0 := ?h0) (hl := rfl) (hn := by omega) (step := ?step)]
              case h0 => rfl
              case step =>
                intro k hk
                have hk1 : ((k + 1 : Nat) : Int) < 16 := by omega
                have hk0 : (0 : Int) ≤ ((k + 1 : Nat) : Int) := by omega
                have hk2 : (((k + 1 : Nat) : Int) == 16) = false := by rw [beq_eq_false_iff_ne]; omega
                have hkw := wrap_succ (k + 1) (by omega)
                have fe := fun K => fe K (k + 1) (by omega)
                rcases stp (k + 1) (by omega) with ⟨q, q'⟩ | ⟨q, q'⟩
                · simp (decide := true) only [hk1, hk0, hk2, hkw, q, Tryz.f80, rid, gl80_0, ↓sBp, sBq, List.all_cons, List.all_nil, List.map_cons, List.map_nil, D.shape, Sh.sub, Sh.size, List.getElem?_cons_zero, List.getElem?_cons_succ, Option.bind_some, Option.bind_none, Option.getD_some, Option.getD_none, V.keysIn, V.kill, V.has, decide_eq_true_eq, beq_iff_eq, bne_iff_ne, ne_eq, Bool.not_eq_true', Bool.and_true, Bool.and_self, Bool.true_and, if_true, if_false, reduceIte, Bool.false_eq_true, decide_true, decide_false, beq_self_eq_true, Bool.not_true, Bool.not_false, true_and, and_true, and_self, List.append_assoc, List.nil_append, List.cons_append, Int.toNat_natCast, ck, Int.cast_ofNat_Int, Int.reduceToNat, bne_self_eq_false, Bool.or_false, Bool.false_or, Bool.false_and, Bool.and_false, Bool.or_true, Bool.true_or]
                · simp (decide := true) only [hk1, hk0, hk2, hkw, q, q', fe, Tryz.f80, rid, gl80_0, ↓sBp, sBq, List.all_cons, List.all_nil, List.map_cons, List.map_nil, D.shape, Sh.sub, Sh.size, List.getElem?_cons_zero, List.getElem?_cons_succ, Option.bind_some, Option.bind_none, Option.getD_some, Option.getD_none, V.keysIn, V.kill, V.has, decide_eq_true_eq, beq_iff_eq, bne_iff_ne, ne_eq, Bool.not_eq_true', Bool.and_true, Bool.and_self, Bool.true_and, if_true, if_false, reduceIte, Bool.false_eq_true, decide_true, decide_false, beq_self_eq_true, Bool.not_true, Bool.not_false, true_and, and_true, and_self, List.append_assoc, List.nil_append, List.cons_append, Int.toNat_natCast, ck, Int.cast_ofNat_Int, Int.reduceToNat, bne_self_eq_false, Bool.or_false, Bool.false_or, Bool.false_and, Bool.and_false, Bool.or_true, Bool.true_or]
              have hmm : m - 1 + 1 = m := by omega
              have hk2 : ((m : Int) == 16) = false := by rw [beq_eq_false_iff_ne]; omega
              have fe := fun K => fe K m hm
              simp (decide := true) only [hmm, hk2, hbad1, hbad2, fe, Tryz.f80, rid, gl80_0, ↓sBp, sBq, List.all_cons, List.all_nil, List.map_cons, List.map_nil, D.shape, Sh.sub, Sh.size, List.getElem?_cons_zero, List.getElem?_cons_succ, Option.bind_some, Option.bind_none, Option.getD_some, Option.getD_none, V.keysIn, V.kill, V.has, decide_eq_true_eq, beq_iff_eq, bne_iff_ne, ne_eq, Bool.not_eq_true', Bool.and_true, Bool.and_self, Bool.true_and, if_true, if_false, reduceIte, Bool.false_eq_true, decide_true, decide_false, beq_self_eq_true, Bool.not_true, Bool.not_false, true_and, and_true, and_self, List.append_assoc, List.nil_append, List.cons_append, Int.toNat_natCast, ck, Int.cast_ofNat_Int, Int.reduceToNat, bne_self_eq_false, Bool.or_false, Bool.false_or, Bool.false_and, Bool.and_false, Bool.or_true, Bool.true_or]
        · have gd : ∀ i : Nat, i < 16 → ((i : Int) = root ∨ fitsF d p root i = true) := fun i hi => Classical.byContradiction fun h => he ⟨i, hi, h⟩
          have e : soundF d p root = true := by
            unfold soundF
            have : ((List.range 16).all fun j => ((j : Int) == root) || fitsF d p root j) = true := by
              rw [List.all_eq_true]
              intro j hj
              have := gd j (by simpa using hj)
              simpa using this
            rw [this, hr, h1, h2]; rfl
          rw [e]
          have fe := fun K (i : Nat) (hi : i < 16) => fits_ev K d p root i hi
          have fe0 : ∀ K, evF Tryz.prog env xt (K+5) 123 [.d (treeD d p), .d (.s (.int .i64 (root))), .d (.s (.int .i64 (0)))] = some (.d (.s (.bool (fitsF d p root 0)))) := fun K => fe K 0 (by omega)
          have stp : ∀ j : Nat, j < 16 → ((((j : Int) != root) = false ∧ True) ∨ (((j : Int) != root) = true ∧ fitsF d p root j = true)) := fun j hj => by
            by_cases e : (j : Int) = root
            · exact Or.inl ⟨by simp [e], trivial⟩
            · exact Or.inr ⟨by simpa using e, (gd j hj).resolve_left e⟩
          have s0 : ((((0 : Int) != root) = false ∧ True) ∨ (((0 : Int) != root) = true ∧ fitsF d p root 0 = true)) := stp 0 (by omega)
          rcases s0 with ⟨q, q'⟩ | ⟨q, q'⟩ <;>
          · simp (decide := true) only [right_ev, hr, hr2, root_ev, h1, h1', h2, h2', q, q', fe0, Int.ofNat_zero, Int.natCast_zero, Tryz.f80, rid, gl80_0, ↓sBp, sBq, List.all_cons, List.all_nil, List.map_cons, List.map_nil, D.shape, Sh.sub, Sh.size, List.getElem?_cons_zero, List.getElem?_cons_succ, Option.bind_some, Option.bind_none, Option.getD_some, Option.getD_none, V.keysIn, V.kill, V.has, decide_eq_true_eq, beq_iff_eq, bne_iff_ne, ne_eq, Bool.not_eq_true', Bool.and_true, Bool.and_self, Bool.true_and, if_true, if_false, reduceIte, Bool.false_eq_true, decide_true, decide_false, beq_self_eq_true, Bool.not_true, Bool.not_false, true_and, and_true, and_self, List.append_assoc, List.nil_append, List.cons_append, Int.toNat_natCast, ck, Int.cast_ofNat_Int, Int.reduceToNat, bne_self_eq_false, Bool.or_false, Bool.false_or, Bool.false_and, Bool.and_false, Bool.or_true, Bool.true_or]
            rw [jumps_run (l := 0) (S := fun k => ⟨tab .junk [(1, .d (.s (.int .i64 (root)))), (2, .ptr 2 (shT) [] (shT)), (5, .d (.s (.int .i64 ((k + 1 : Nat)))))], tab none [(2, some (.box (treeD d p)))]⟩) (n := 15) (h0 := ?h0) (hl := rfl) (hn := by omega) (step := ?step)]
            case h0 => rfl
            case step =>
              intro k hk
              have hk1 : ((k + 1 : Nat) : Int) < 16 := by omega
              have hk0 : (0 : Int) ≤ ((k + 1 : Nat) : Int) := by omega
              have hk2 : (((k + 1 : Nat) : Int) == 16) = false := by rw [beq_eq_false_iff_ne]; omega
              have hkw := wrap_succ (k + 1) (by omega)
              have fe := fun K => fe K (k + 1) (by omega)
              rcases stp (k + 1) (by omega) with ⟨q, q'⟩ | ⟨q, q'⟩
              · simp (decide := true) only [hk1, hk0, hk2, hkw, q, Tryz.f80, rid, gl80_0, ↓sBp, sBq, List.all_cons, List.all_nil, List.map_cons, List.map_nil, D.shape, Sh.sub, Sh.size, List.getElem?_cons_zero, List.getElem?_cons_succ, Option.bind_some, Option.bind_none, Option.getD_some, Option.getD_none, V.keysIn, V.kill, V.has, decide_eq_true_eq, beq_iff_eq, bne_iff_ne, ne_eq, Bool.not_eq_true', Bool.and_true, Bool.and_self, Bool.true_and, if_true, if_false, reduceIte, Bool.false_eq_true, decide_true, decide_false, beq_self_eq_true, Bool.not_true, Bool.not_false, true_and, and_true, and_self, List.append_assoc, List.nil_append, List.cons_append, Int.toNat_natCast, ck, Int.cast_ofNat_Int, Int.reduceToNat, bne_self_eq_false, Bool.or_false, Bool.false_or, Bool.false_and, Bool.and_false, Bool.or_true, Bool.true_or]
              · simp (decide := true) only [hk1, hk0, hk2, hkw, q, q', fe, Tryz.f80, rid, gl80_0, ↓sBp, sBq, List.all_cons, List.all_nil, List.map_cons, List.map_nil, D.shape, Sh.sub, Sh.size, List.getElem?_cons_zero, List.getElem?_cons_succ, Option.bind_some, Option.bind_none, Option.getD_some, Option.getD_none, V.keysIn, V.kill, V.has, decide_eq_true_eq, beq_iff_eq, bne_iff_ne, ne_eq, Bool.not_eq_true', Bool.and_true, Bool.and_self, Bool.true_and, if_true, if_false, reduceIte, Bool.false_eq_true, decide_true, decide_false, beq_self_eq_true, Bool.not_true, Bool.not_false, true_and, and_true, and_self, List.append_assoc, List.nil_append, List.cons_append, Int.toNat_natCast, ck, Int.cast_ofNat_Int, Int.reduceToNat, bne_self_eq_false, Bool.or_false, Bool.false_or, Bool.false_and, Bool.and_false, Bool.or_true, Bool.true_or]
            simp (decide := true) only [Tryz.f80, rid, gl80_0, ↓sBp, sBq, List.all_cons, List.all_nil, List.map_cons, List.map_nil, D.shape, Sh.sub, Sh.size, List.getElem?_cons_zero, List.getElem?_cons_succ, Option.bind_some, Option.bind_none, Option.getD_some, Option.getD_none, V.keysIn, V.kill, V.has, decide_eq_true_eq, beq_iff_eq, bne_iff_ne, ne_eq, Bool.not_eq_true', Bool.and_true, Bool.and_self, Bool.true_and, if_true, if_false, reduceIte, Bool.false_eq_true, decide_true, decide_false, beq_self_eq_true, Bool.not_true, Bool.not_false, true_and, and_true, and_self, List.append_assoc, List.nil_append, List.cons_append, Int.toNat_natCast, ck, Int.cast_ofNat_Int, Int.reduceToNat, bne_self_eq_false, Bool.or_false, Bool.false_or, Bool.false_and, Bool.and_false, Bool.or_true, Bool.true_or]
      · have h2' : (p root.toNat != -1) = true := by simp [bne, h2]
        simp (decide := true) only [right_ev, hr, hr2, root_ev, h1, h1', h2, h2', soundF, Tryz.f80, rid, gl80_0, ↓sBp, sBq, List.all_cons, List.all_nil, List.map_cons, List.map_nil, D.shape, Sh.sub, Sh.size, List.getElem?_cons_zero, List.getElem?_cons_succ, Option.bind_some, Option.bind_none, Option.getD_some, Option.getD_none, V.keysIn, V.kill, V.has, decide_eq_true_eq, beq_iff_eq, bne_iff_ne, ne_eq, Bool.not_eq_true', Bool.and_true, Bool.and_self, Bool.true_and, if_true, if_false, reduceIte, Bool.false_eq_true, decide_true, decide_false, beq_self_eq_true, Bool.not_true, Bool.not_false, true_and, and_true, and_self, List.append_assoc, List.nil_append, List.cons_append, Int.toNat_natCast, ck, Int.cast_ofNat_Int, Int.reduceToNat, bne_self_eq_false, Bool.or_false, Bool.false_or, Bool.false_and, Bool.and_false, Bool.or_true, Bool.true_or]
    · have h1' : (rootF d != root) = true := by simp [bne, h1]
      simp (decide := true) only [right_ev, hr, hr2, root_ev, h1, h1', soundF, Tryz.f80, rid, gl80_0, ↓sBp, sBq, List.all_cons, List.all_nil, List.map_cons, List.map_nil, D.shape, Sh.sub, Sh.size, List.getElem?_cons_zero, List.getElem?_cons_succ, Option.bind_some, Option.bind_none, Option.getD_some, Option.getD_none, V.keysIn, V.kill, V.has, decide_eq_true_eq, beq_iff_eq, bne_iff_ne, ne_eq, Bool.not_eq_true', Bool.and_true, Bool.and_self, Bool.true_and, if_true, if_false, reduceIte, Bool.false_eq_true, decide_true, decide_false, beq_self_eq_true, Bool.not_true, Bool.not_false, true_and, and_true, and_self, List.append_assoc, List.nil_append, List.cons_append, Int.toNat_natCast, ck, Int.cast_ofNat_Int, Int.reduceToNat, bne_self_eq_false, Bool.or_false, Bool.false_or, Bool.false_and, Bool.and_false, Bool.or_true, Bool.true_or]
  · simp (decide := true) only [right_ev, hr, soundF, Tryz.f80, rid, gl80_0, ↓sBp, sBq, List.all_cons, List.all_nil, List.map_cons, List.map_nil, D.shape, Sh.sub, Sh.size, List.getElem?_cons_zero, List.getElem?_cons_succ, Option.bind_some, Option.bind_none, Option.getD_some, Option.getD_none, V.keysIn, V.kill, V.has, decide_eq_true_eq, beq_iff_eq, bne_iff_ne, ne_eq, Bool.not_eq_true', Bool.and_true, Bool.and_self, Bool.true_and, if_true, if_false, reduceIte, Bool.false_eq_true, decide_true, decide_false, beq_self_eq_true, Bool.not_true, Bool.not_false, true_and, and_true, and_self, List.append_assoc, List.nil_append, List.cons_append, Int.toNat_natCast, ck, Int.cast_ofNat_Int, Int.reduceToNat, bne_self_eq_false, Bool.or_false, Bool.false_or, Bool.false_and, Bool.and_false, Bool.or_true, Bool.true_or]
end Go.Proofs.YtjceimcepogkaaaGreatDoor.Ev
