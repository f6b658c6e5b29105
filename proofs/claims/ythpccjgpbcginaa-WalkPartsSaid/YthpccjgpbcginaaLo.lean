/- The order of a tree, plainly: all to which there is a way, each once, none ahead of its Pred. -/
import Derived.Test.YthpccjgpbcginaaWm
import Derived.Test.YthpccjgpbcginaaBm
namespace Go.Proofs.Ythpccjgpbcginaa.Ev
open Go
set_option linter.unusedSimpArgs false
set_option linter.unusedVariables false

theorem ch_add (p : Nat → Int) (j : Int) (i : Nat) : ∀ k, ch p (ch p j i) k = ch p j (i + k)
  | 0 => rfl
  | k + 1 => by show p (ch p (ch p j i) k).toNat = p (ch p j (i + k)).toNat; rw [ch_add p j i k]
theorem back_tail {d p : Nat → Int} {root j : Int} {n : Nat} (hn : n < 16) (hr : right root = true) (hj : gd d j ≠ 4294967295) (hs : ∀ k, k < n → ¬ stopAt d p root j k) (he : ch p j n = root) {i : Nat} (hi : i ≤ n) :
    backL d p root (ch p j i) = wayTo p (ch p j i) (n - i) ∧ right (ch p j i) = true ∧ d (ch p j i).toNat ≠ 4294967295 := by
  have hrj := gd_right hj
  have fit : ∀ k, k < n → fitAt d p j k := fun k hk => (not_stop (hs k hk)).2
  have hrc := fit_right hrj fit
  have hd : d (ch p j i).toNat ≠ 4294967295 := by
    cases i with
    | zero => have := hj; rw [gd_of hrj] at this; exact this
    | succ i => exact (fit i (by omega)).2.2
  refine ⟨?_, hrc i hi, hd⟩
  refine backL_of (by omega) hr (by rw [gd_of (hrc i hi)]; exact hd) (fun k hk => ?_) (by rw [ch_add]; rw [show i + (n - i) = n by omega]; exact he)
  rintro (h | h)
  · rw [ch_add] at h; exact (not_stop (hs (i + k) (by omega))).1 h
  · refine h ⟨?_, ?_, ?_⟩
    · rw [ch_add]; exact hrc _ (by omega)
    · cases hh : has (seenS p (ch p j i) k) (ch p (ch p j i) (k + 1)) with
      | false => rfl
      | true =>
        obtain ⟨m, hm, e, _⟩ := seen_iff p (ch p j i) k _ hh
        rw [ch_add, ch_add] at e
        exact absurd e.symm (fit_ne hrj fit (i + m) (i + (k + 1)) (by omega) (by omega))
    · rw [ch_add]; exact (fit (i + k) (by omega)).2.2
theorem ord_pre (d p : Nat → Int) (root : Int) (k : Nat) : ∀ m, k ≤ m → ∃ r, ordTo d p root m = ordTo d p root k ++ r
  | 0, h => ⟨[], by obtain rfl : k = 0 := by omega
                    simp⟩
  | m + 1, h => by
    by_cases e : k = m + 1
    · exact ⟨[], by rw [e]; simp⟩
    · obtain ⟨r, hr⟩ := ord_pre d p root k m (by omega)
      exact ⟨r ++ (((ordTo d p root m)[m]?).map (kids d p root)).getD [], by
        show ordTo d p root m ++ _ = _
        rw [← List.append_assoc, ← hr]⟩
theorem ord_closed {d p : Nat → Int} {root : Int} (h0 : hopsF d p root root = 0) {x y : Int} (hx : x ∈ ordTo d p root 16) (hy : y ∈ kids d p root x) : y ∈ ordTo d p root 16 := by
  have hl := ord_len (hops_root_right h0) h0 16
  obtain ⟨i, hi, he⟩ := List.getElem_of_mem hx
  have hi2 : i < (ordTo d p root i).length := by
    refine Nat.lt_of_not_le fun hle => ?_
    have := ord_stop hle 16 (by omega)
    rw [this] at hi; omega
  obtain ⟨r, hr⟩ := ord_pre d p root (i + 1) 16 (by omega)
  obtain ⟨r0, hr0⟩ := ord_pre d p root i 16 (by omega)
  have e : (ordTo d p root i)[i]? = some x := by
    have h1 : (ordTo d p root 16)[i]? = some x := by rw [List.getElem?_eq_getElem hi, he]
    rw [hr0, List.getElem?_append_left hi2] at h1
    exact h1
  have e2 : ordTo d p root (i + 1) = ordTo d p root i ++ kids d p root x := by
    show ordTo d p root i ++ (((ordTo d p root i)[i]?).map (kids d p root)).getD [] = _
    rw [e]; rfl
  rw [hr, e2]; simp [hy]
theorem ord_pred (d p : Nat → Int) (root : Int) : ∀ (k m : Nat) (x : Int), 0 < m → (ordTo d p root k)[m]? = some x → ∃ i, i < m ∧ (ordTo d p root k)[i]? = some (p x.toNat)
  | 0, m, x, hm, h => by
    obtain ⟨m, rfl⟩ : ∃ q, m = q + 1 := ⟨m - 1, by omega⟩
    simp [ordTo] at h
  | k + 1, m, x, hm, h => by
    have e : ordTo d p root (k + 1) = ordTo d p root k ++ (((ordTo d p root k)[k]?).map (kids d p root)).getD [] := rfl
    rw [e] at h ⊢
    by_cases hlt : m < (ordTo d p root k).length
    · rw [List.getElem?_append_left hlt] at h
      obtain ⟨i, h1, h2⟩ := ord_pred d p root k m x hm h
      exact ⟨i, h1, by rw [List.getElem?_append_left (by omega)]; exact h2⟩
    · cases hk : (ordTo d p root k)[k]? with
      | none =>
        rw [hk] at h
        simp only [Option.map_none, Option.getD_none, List.append_nil] at h
        rw [List.getElem?_eq_none (by omega)] at h; cases h
      | some y =>
        rw [hk] at h
        simp only [Option.map_some, Option.getD_some] at h ⊢
        rw [List.getElem?_append_right (by omega)] at h
        obtain ⟨_, _, _, h4, _, _⟩ := mem_kids (List.mem_of_getElem? h)
        have hkl : k < (ordTo d p root k).length := (List.getElem?_eq_some_iff.1 hk).1
        exact ⟨k, by omega, by rw [List.getElem?_append_left hkl, hk, h4]⟩
theorem ord_all {d p : Nat → Int} {root : Int} (h0 : hopsF d p root root = 0) {j : Int} (h : 0 ≤ hopsF d p root j) : j ∈ ordTo d p root 16 := by
  rcases backL_cases d p root j with e | ⟨n, hn, hr, hj, hs, he, e⟩
  · unfold hopsF at h; rw [e] at h; simp at h
  · have hrj := gd_right hj
    have fit : ∀ k, k < n → fitAt d p j k := fun k hk => (not_stop (hs k hk)).2
    have key : ∀ k, k ≤ n → ch p j (n - k) ∈ ordTo d p root 16 := by
      intro k
      induction k with
      | zero =>
        intro _
        obtain ⟨r, hr⟩ := ord_pre d p root 0 16 (by omega)
        rw [Nat.sub_zero, he, hr]
        simp [ordTo]
      | succ k ih =>
        intro hk
        have hm := ih (by omega)
        refine ord_closed h0 hm ?_
        obtain ⟨t1, t2, t3⟩ := back_tail hn hr hj hs he (i := n - (k + 1)) (by omega)
        obtain ⟨u1, u2, u3⟩ := back_tail hn hr hj hs he (i := n - k) (by omega)
        have hh := hops_of_way t1
        have hp : p (ch p j (n - (k + 1))).toNat = ch p j (n - k) := by
          have : ch p j (n - (k + 1) + 1) = p (ch p j (n - (k + 1))).toNat := rfl
          rw [← this]; congr 1; omega
        have hne : ch p j (n - (k + 1)) ≠ ch p j (n - k) := fit_ne hrj fit _ _ (by omega) (by omega)
        obtain ⟨i, hi, ei⟩ := right_eq t2
        unfold kids
        rw [List.mem_filter, mem_listTo]
        refine ⟨⟨i, hi, ei, ?_⟩, by rw [hh]; simp; omega⟩
        rw [show childF d p (ch p j (n - k)) = setOf (childC d p (ch p j (n - k))) 16 from rfl, has_setOf _ hi]
        rw [ei] at hp hne t3
        rw [Int.toNat_natCast] at hp t3
        simp only [childC, u2, Bool.true_and, Bool.and_eq_true, bne_iff_ne, beq_iff_eq]
        exact ⟨hne, hp, t3⟩
    have := key n (Nat.le_refl _)
    rwa [Nat.sub_self] at this
theorem ord_iff {d p : Nat → Int} {root : Int} (h0 : hopsF d p root root = 0) (j : Int) : j ∈ ordTo d p root 16 ↔ 0 ≤ hopsF d p root j := by
  refine ⟨fun h => ?_, ord_all h0⟩
  rcases (ord_ok (hops_root_right h0) h0 16).up j h with rfl | ⟨h1, _⟩
  · omega
  · omega
theorem mem_take {α : Type} {l : List α} {k : Nat} {x : α} : x ∈ l.take k ↔ ∃ i, i < k ∧ l[i]? = some x := by
  rw [List.mem_iff_getElem?]
  constructor
  · rintro ⟨i, h⟩
    rw [List.getElem?_take] at h
    split at h
    · exact ⟨i, by assumption, h⟩
    · cases h
  · rintro ⟨i, h1, h2⟩
    exact ⟨i, by rw [List.getElem?_take, if_pos h1]; exact h2⟩
/-- Turn by turn: the k-th of the order is new, and its Pred was. -/
theorem ord_new {d p : Nat → Int} {root : Int} (h0 : hopsF d p root root = 0) {k : Nat} (hk : k < (ordTo d p root 16).length) :
    right (ordTo d p root 16)[k] = true ∧ has (setFrom 0 (ordTo d p root 16) k) (ordTo d p root 16)[k] = false ∧ (0 < k → has (setFrom 0 (ordTo d p root 16) k) (gp p (ordTo d p root 16)[k]) = true) := by
  have ok := ord_ok (hops_root_right h0) h0 16
  have hr := ok.rt _ (List.getElem_mem hk)
  have hl : k ≤ (ordTo d p root 16).length := by omega
  refine ⟨hr, ?_, fun h => ?_⟩
  · rw [has_setFrom inI_zero _ _ k hl, has_zero, hr]
    simp only [Bool.false_or, Bool.true_and, decide_eq_false_iff_not]
    intro h
    obtain ⟨i, hi, he⟩ := mem_take.1 h
    have := (List.getElem?_inj (by omega) ok.nd).1 (he.trans (List.getElem?_eq_getElem hk).symm)
    omega
  · obtain ⟨i, hi, he⟩ := ord_pred d p root 16 k _ h (List.getElem?_eq_getElem hk)
    rw [gp_of hr, has_setFrom inI_zero _ _ k hl, ok.rt _ (List.mem_of_getElem? he)]
    simp only [Bool.true_and, Bool.or_eq_true, decide_eq_true_eq]
    exact .inr (mem_take.2 ⟨i, hi, he⟩)
theorem ord_seen {d p : Nat → Int} {root : Int} (h0 : hopsF d p root root = 0) {j : Int} (hj : right j = true) : has (setFrom 0 (ordTo d p root 16) (ordTo d p root 16).length) j = decide (0 ≤ hopsF d p root j) := by
  rw [has_setFrom inI_zero _ _ _ (Nat.le_refl _), has_zero, hj, List.take_length]
  simp [ord_iff h0]
theorem low_setFrom {s : Int} (hs : inI s) (ls : ∀ i, 16 ≤ i → tb s i = false) (l : List Int) : ∀ k i, 16 ≤ i → tb (setFrom s l k) i = false
  | 0, i, hi => ls i hi
  | k + 1, i, hi => by
    show tb (withN (setFrom s l k) (l.getD k 0)) i = false
    rw [tb_withN, low_setFrom hs ls l k i hi]
    cases hr : right (l.getD k 0) with
    | false => rfl
    | true =>
      have := right_nn hr
      rw [Bool.false_or, Bool.true_and]
      exact decide_eq_false (by omega)
theorem ord_below {d p : Nat → Int} {root : Int} (h0 : hopsF d p root root = 0) : belowF d p root root = setFrom 0 (ordTo d p root 16) (ordTo d p root 16).length := by
  refine low_ext (inI_setOf _ _) (inI_setFrom inI_zero _ _) (fun i hi => ?_) (low_setFrom inI_zero (fun i _ => tb_zero i) _ _) fun m hm => ?_
  · rw [show belowF d p root root = setOf (belowC d p root root) 16 from rfl, tb_setOf _ _ _ (Nat.le_refl _)]
    simp; omega
  · rw [show belowF d p root root = setOf (belowC d p root root) 16 from rfl, has_setOf _ hm, ord_seen h0 (right_of hm)]
    unfold belowC
    refine decide_eq_decide.2 ⟨fun h => ?_, fun h => ?_⟩
    · unfold hopsF
      have := List.length_pos_of_mem h
      omega
    · rcases backL_cases d p root m with e | ⟨n, hn, hr, hj, hs, he, e⟩
      · unfold hopsF at h; rw [e] at h; simp at h
      · rw [e, ← he]
        unfold wayTo
        rw [List.mem_map]
        exact ⟨n, by simp, rfl⟩
end Go.Proofs.Ythpccjgpbcginaa.Ev
