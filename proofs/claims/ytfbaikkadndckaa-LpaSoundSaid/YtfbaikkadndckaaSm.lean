/- Plain laws of one's own table: it is a tree whose distances add up; no row that may be is missing. -/
import Derived.Test.YtfbaikkadndckaaOpn
import Derived.Test.YtfbaikkadndckaaSf
namespace Go.Proofs.Ytfbaikkadndckaa.Ev
open Go
attribute [local congr] ob_congr sq_congr cd_congr ite_congr1 iter_congr it1_congr jumps_congr
set_option maxRecDepth 100000
set_option linter.unusedSimpArgs false
set_option linter.unusedVariables false

theorem u32_id {x : Int} (h0 : 0 ≤ x) (h1 : x ≤ 4294967295) : IntKind.u32.wrap x = x := by
  have e : IntKind.u32.wrap x = x % 4294967296 := rfl
  rw [e]; omega

theorem mem_listTo {s x : Int} {k : Nat} : x ∈ listTo s k ↔ ∃ m : Nat, m < k ∧ x = m ∧ has s m = true := by
  unfold listTo
  simp only [List.mem_map, List.mem_filter, List.mem_range]
  constructor
  · rintro ⟨m, ⟨h1, h2⟩, rfl⟩; exact ⟨m, h1, rfl, h2⟩
  · rintro ⟨m, h1, rfl, h2⟩; exact ⟨m, ⟨h1, h2⟩, rfl⟩
/-- Ways back in a tree whose distances fall. -/
theorem back_of_mono {d p : Nat → Int} {root : Int} (hr : right root = true)
    (h : ∀ j, right j = true → j ≠ root → d j.toNat ≠ 4294967295 → right (p j.toNat) = true ∧ d (p j.toNat).toNat ≠ 4294967295 ∧ d (p j.toNat).toNat < d j.toNat) {j : Int} (hj : right j = true) (hd : d j.toNat ≠ 4294967295) :
    ∃ n, n < 16 ∧ backL d p root j = wayTo p j n ∧ ch p j n = root ∧ (∀ k, k < n → ch p j k ≠ root) ∧ (∀ k, k ≤ n → right (ch p j k) = true ∧ d (ch p j k).toNat ≠ 4294967295) := by
  obtain ⟨N, hN, hs, hf⟩ := first_of (stop_ex d p root j hj)
  have fit : ∀ k, k < N → fitAt d p j k := fun k hk => (not_stop (hf k hk)).2
  have ne : ∀ k, k < N → ch p j k ≠ root := fun k hk => (not_stop (hf k hk)).1
  have good : ∀ k, k ≤ N → right (ch p j k) = true ∧ d (ch p j k).toNat ≠ 4294967295 := fun k hk => by
    cases k with
    | zero => exact ⟨hj, hd⟩
    | succ k => exact ⟨(fit k (by omega)).1, (fit k (by omega)).2.2⟩
  have dec : ∀ k, k ≤ N → ∀ i, i ≤ k → d (ch p j k).toNat ≤ d (ch p j i).toNat := by
    intro k
    induction k with
    | zero => intro _ i hi; obtain rfl : i = 0 := by omega
              exact Int.le_refl _
    | succ k ih =>
      intro hk i hi
      by_cases e : i = k + 1
      · subst e; exact Int.le_refl _
      · have h1 := ih (by omega) i (by omega)
        have h2 := (h (ch p j k) (good k (by omega)).1 (ne k (by omega)) (good k (by omega)).2).2.2
        have h2 : d (ch p j (k + 1)).toNat < d (ch p j k).toNat := h2
        omega
  have hroot : ch p j N = root := by
    refine Classical.byContradiction fun hne => ?_
    have nf := hs.resolve_left hne
    obtain ⟨q1, q2, q3⟩ := h (ch p j N) (good N (Nat.le_refl _)).1 hne (good N (Nat.le_refl _)).2
    refine nf ⟨q1, ?_, q2⟩
    cases hh : has (seenS p j N) (ch p j (N + 1)) with
    | false => rfl
    | true =>
      obtain ⟨i, hi, e, _⟩ := seen_iff p j N _ hh
      have h1 := dec N (Nat.le_refl _) i hi
      have q3 : d (ch p j (N + 1)).toNat < d (ch p j N).toNat := q3
      rw [e] at q3
      omega
  exact ⟨N, hN, backL_of hN hr (by rw [gd_of hj]; exact hd) hf hroot, hroot, ne, good⟩
theorem hops_of_way {d p : Nat → Int} {root j : Int} {n : Nat} (h : backL d p root j = wayTo p j n) : hopsF d p root j = n := by
  unfold hopsF; rw [h, wayTo_len]; omega

theorem zeroTo_one {d : Nat → Int} {m : Nat} (h : ∀ i, i < 16 → (d i = 0 ↔ i = m)) : ∀ k, k ≤ 16 → zeroTo d k = if m < k then (m : Int) else -1
  | 0, _ => by simp [zeroTo, upto]
  | k + 1, hk => by
    rw [zeroTo_succ, zeroTo_one h k (by omega)]
    by_cases e : k = m
    · subst e; rw [if_pos ((h k (by omega)).2 rfl)]; simp
    · have e' : ¬ d k = 0 := fun q => e ((h k (by omega)).1 q)
      rw [if_neg e']
      by_cases q : m < k
      · rw [if_pos q, if_pos (by omega)]
      · rw [if_neg q, if_neg (by omega)]
theorem rootF_one {d : Nat → Int} {m : Nat} (hm : m < 16) (h : ∀ i, i < 16 → (d i = 0 ↔ i = m)) : rootF d = m := by
  unfold rootF
  have hn : ¬ ∃ q, q < 16 ∧ d q = 0 ∧ 0 ≤ zeroTo d q := by
    rintro ⟨q, hq, h1, h2⟩
    obtain rfl := (h q hq).1 h1
    rw [zeroTo_one h q (by omega), if_neg (by omega)] at h2
    omega
  rw [if_neg hn, zeroTo_one h 16 (Nat.le_refl _), if_pos hm]

/-- A row of a table: by a neighbour that is up, and behind the row of the node ahead. -/
structure RowIn (k : Kn) (skip : Int) (r : Rw) (j : Nat) (n : Nat) : Prop where
  n16 : n < 16
  rn : r.n j = n
  up : has k.up n = true
  pre : alPre k n j = true
  skip : has skip j = false
  rd : r.d j = alD k n j
  end1 : (j : Int) = n → r.p j = k.self ∧ tol k n j = 0
  end2 : (j : Int) ≠ n → r.p j = tpr k n j ∧ alMid k n j = true ∧ r.n (tpr k n j).toNat = n ∧ r.d (tpr k n j).toNat = IntKind.u32.wrap (alD k n j - alW k n j)
structure TabOK (k : Kn) (skip : Int) (r : Rw) : Prop where
  hi : ∀ i, 16 ≤ i → r.d i = 0 ∧ r.p i = 0 ∧ r.n i = 0
  self : r.d k.self.toNat = 0 ∧ r.p k.self.toNat = -1 ∧ r.n k.self.toNat = -1
  row : ∀ j : Nat, j < 16 → (j : Int) ≠ k.self → rowNone (r.d j) (r.p j) (r.n j) = true ∨ ∃ n, RowIn k skip r j n

theorem none_iff {a b c : Int} : rowNone a b c = true ↔ a = 4294967295 ∧ b = -1 ∧ c = -1 := by
  simp [rowNone]

/-- What may be put in next. -/
def Cand (k : Kn) (r : Rw) (skip n : Int) (j : Nat) : Prop := rowNone (r.d j) (r.p j) (r.n j) = true ∧ has skip j = false ∧ alOk k r n j = true
theorem nearJ_yes {k : Kn} {r : Rw} {skip n : Int} {j : Nat} {s : Bst} (h : Cand k r skip n j) (ha : alRd k n j < s.a) : nearJ k r skip n j s = ⟨j, alRd k n j, alRp k n j, alRn k n j⟩ := by
  unfold nearJ; rw [h.1, h.2.1, h.2.2, decide_eq_true ha]; rfl
theorem nearJ_no {k : Kn} {r : Rw} {skip n : Int} {j : Nat} {s : Bst} (h : ¬ (Cand k r skip n j ∧ alRd k n j < s.a)) : nearJ k r skip n j s = s := by
  unfold nearJ
  refine if_neg fun q => h ?_
  simp only [Bool.and_eq_true, Bool.not_eq_true', decide_eq_true_eq] at q
  exact ⟨⟨q.1, q.2.1, q.2.2.1⟩, q.2.2.2⟩
def bst0 : Bst := ⟨-1, 4294967295, -1, -1⟩
def Found (k : Kn) (r : Rw) (skip : Int) (s : Bst) : Prop := s = bst0 ∨ ∃ (n : Int) (j : Nat), n ∈ listTo k.up 16 ∧ j < 16 ∧ Cand k r skip n j ∧ s = ⟨j, alRd k n j, alRp k n j, alRn k n j⟩
theorem nearN_ok {k : Kn} {r : Rw} {skip n : Int} (hn : n ∈ listTo k.up 16) {s : Bst} (hs : Found k r skip s) : ∀ j, j ≤ 16 → Found k r skip (nearN k r skip n s j) ∧ (nearN k r skip n s j).a ≤ s.a ∧ ∀ i, i < j → Cand k r skip n i → (nearN k r skip n s j).a ≤ alRd k n i
  | 0, _ => ⟨hs, Int.le_refl _, fun i hi => by omega⟩
  | j + 1, hj => by
    obtain ⟨h1, h2, h3⟩ := nearN_ok hn hs j (by omega)
    have e : nearN k r skip n s (j + 1) = nearJ k r skip n j (nearN k r skip n s j) := rfl
    rw [e]
    by_cases hc : Cand k r skip n j ∧ alRd k n j < (nearN k r skip n s j).a
    · rw [nearJ_yes hc.1 hc.2]
      refine ⟨Or.inr ⟨n, j, hn, by omega, hc.1, rfl⟩, ?_, fun i hi hci => ?_⟩
      · show alRd k n j ≤ s.a; omega
      · show alRd k n j ≤ alRd k n i
        by_cases e : i = j
        · subst e; exact Int.le_refl _
        · have := h3 i (by omega) hci; omega
    · rw [nearJ_no hc]
      refine ⟨h1, h2, fun i hi hci => ?_⟩
      by_cases e : i = j
      · subst e
        have : ¬ alRd k n i < (nearN k r skip n s i).a := fun q => hc ⟨hci, q⟩
        omega
      · exact h3 i (by omega) hci
theorem nearTo_ok (k : Kn) (r : Rw) (skip : Int) : ∀ i, i ≤ (listTo k.up 16).length → Found k r skip (nearTo k r skip i) ∧ ∀ q, q < i → ∀ j, j < 16 → Cand k r skip ((listTo k.up 16).getD q 0) j → (nearTo k r skip i).a ≤ alRd k ((listTo k.up 16).getD q 0) j
  | 0, _ => ⟨Or.inl rfl, fun q hq => by omega⟩
  | i + 1, hi => by
    obtain ⟨h1, h2⟩ := nearTo_ok k r skip i (by omega)
    have hm : (listTo k.up 16).getD i 0 ∈ listTo k.up 16 := by
      simp [List.getD, List.getElem?_eq_getElem (by omega : i < (listTo k.up 16).length)]
    obtain ⟨g1, g2, g3⟩ := nearN_ok (k := k) (r := r) (skip := skip) hm h1 16 (Nat.le_refl _)
    refine ⟨g1, fun q hq j hj hc => ?_⟩
    by_cases e : q = i
    · subst e; exact g3 j hj hc
    · exact Int.le_trans g2 (h2 q (by omega) j hj hc)
theorem near_found (k : Kn) (r : Rw) (skip : Int) : Found k r skip (near k r skip) := (nearTo_ok k r skip _ (Nat.le_refl _)).1
theorem near_min (k : Kn) (r : Rw) (skip : Int) {n : Int} (hn : n ∈ listTo k.up 16) {j : Nat} (hj : j < 16) (hc : Cand k r skip n j) : (near k r skip).a ≤ alRd k n j := by
  obtain ⟨q, hq, rfl⟩ := List.getElem_of_mem hn
  have := (nearTo_ok k r skip _ (Nat.le_refl _)).2 q hq j hj
  have e : (listTo k.up 16).getD q 0 = (listTo k.up 16)[q] := by simp [List.getD, List.getElem?_eq_getElem hq]
  rw [e] at this
  exact this hc

structure PreOK (k : Kn) (n j : Int) : Prop where
  rj : right j = true
  rn : right n = true
  js : j ≠ k.self
  ns : n ≠ k.self
  c1 : 1 ≤ kc k n
  c2 : kc k n ≤ 65536
  tf : tol k n j ≠ 4294967295
  t2 : tol k n j ≤ 983040
theorem pre_ok {k : Kn} {n j : Int} (h : alPre k n j = true) : PreOK k n j := by
  simp only [alPre, Bool.and_eq_true, bne_iff_ne, ne_eq, decide_eq_true_eq] at h
  exact ⟨h.1, h.2.1, h.2.2.1, h.2.2.2.1, h.2.2.2.2.1.1, h.2.2.2.2.1.2, h.2.2.2.2.2.1, h.2.2.2.2.2.2⟩
theorem gd_in {d : Nat → Int} (h : ∀ i, inU (d i)) (j : Int) : inU (gd d j) := by
  unfold gd; split
  · exact h _
  · exact ⟨by omega, by omega⟩
theorem alD_eq {k : Kn} (hk : KnOK k) {n j : Int} (h : PreOK k n j) : alD k n j = tol k n j + kc k n ∧ 0 ≤ tol k n j := by
  have ht : inU (tol k n j) := gd_in (hk.tD _) j
  have := h.c1; have := h.c2; have := h.t2
  refine ⟨u32_id ?_ ?_, ht.1⟩
  · have := ht.1; omega
  · omega
theorem has_of_cost {k : Kn} {n : Int} (h : kc k n ≤ 65536) : has k.up n = true := by
  unfold kc ofF at h
  by_cases e : has k.up n = true
  · exact e
  · rw [if_neg e] at h; omega
theorem wV_of {d p : Nat → Int} {j : Int} (hd : ∀ i, inU (d i)) (h : wOk d p j = true) : wV d p j = gd d j - d (gp p j).toNat ∧ right (gp p j) = true ∧ d (gp p j).toNat ≠ 4294967295 ∧ d (gp p j).toNat < gd d j ∧ gd d j ≠ 4294967295 := by
  have h' := h
  simp only [wOk, Bool.and_eq_true, bne_iff_ne, ne_eq, decide_eq_true_eq] at h'
  obtain ⟨h1, h2, h3, h4⟩ := h'
  refine ⟨?_, h2, h3, h4, h1⟩
  unfold wV
  rw [if_pos h]
  have a := gd_in hd j
  have b := hd (gp p j).toNat
  exact u32_id (by omega) (by have := a.2; have := b.1; omega)
theorem wOk_of {d p : Nat → Int} {j : Int} (hd : ∀ i, inU (d i)) (hj : right j = true) (h1 : d j.toNat ≠ 4294967295) (h2 : right (p j.toNat) = true) (h3 : d (p j.toNat).toNat ≠ 4294967295) (h4 : d (p j.toNat).toNat < d j.toNat) : wOk d p j = true ∧ wV d p j = d j.toNat - d (p j.toNat).toNat := by
  have e : wOk d p j = true := by
    simp only [wOk, gd_of hj, gp_of hj, Bool.and_eq_true, bne_iff_ne, ne_eq, decide_eq_true_eq]
    exact ⟨h1, h2, h3, h4⟩
  refine ⟨e, ?_⟩
  rw [(wV_of hd e).1, gd_of hj, gp_of hj]

section
variable {k : Kn} {skip : Int} {r : Rw}
/-- What is known of a row that is in. -/
structure RowFact (k : Kn) (r : Rw) (j n : Nat) : Prop where
  d1 : 1 ≤ r.d j
  d2 : r.d j ≤ 1048576
  dn : r.n j = n
  pr : right (r.p j) = true
  pd : r.d (r.p j).toNat < r.d j
  pf : r.d (r.p j).toNat ≠ 4294967295
  pw : r.d j - r.d (r.p j).toNat ≤ 65536
theorem row_fact (hk : KnOK k) (hs : right k.self = true) (ht : TabOK k skip r) {j n : Nat} (hj : j < 16) (h : RowIn k skip r j n) : RowFact k r j n := by
  have pre := pre_ok h.pre
  obtain ⟨e1, e2⟩ := alD_eq hk pre
  have c1 := pre.c1; have c2 := pre.c2; have t2 := pre.t2
  have d1 : 1 ≤ r.d j := by rw [h.rd, e1]; omega
  have d2 : r.d j ≤ 1048576 := by rw [h.rd, e1]; omega
  by_cases hjn : (j : Int) = n
  · obtain ⟨p1, p2⟩ := h.end1 hjn
    have hz : r.d (r.p j).toNat = 0 := by rw [p1]; exact ht.self.1
    exact ⟨d1, d2, h.rn, by rw [p1]; exact hs, by rw [hz]; omega, by rw [hz]; omega, by rw [hz, h.rd, e1, p2]; omega⟩
  · obtain ⟨p1, p2, p3, p4⟩ := h.end2 hjn
    simp only [alMid, Bool.and_eq_true, bne_iff_ne, ne_eq, decide_eq_true_eq] at p2
    obtain ⟨w1, w2, w3, w4⟩ := p2
    obtain ⟨v1, v2, v3, v4, v5⟩ := wV_of (hk.tD _) w1
    have v1 : alW k n j = tol k n j - k.tD n (tpr k n j).toNat := v1
    have v4 : k.tD n (tpr k n j).toNat < tol k n j := v4
    have b := hk.tD n (tpr k n j).toNat
    have e3 : IntKind.u32.wrap (alD k n j - alW k n j) = alD k n j - alW k n j := u32_id (by rw [e1, v1]; have := b.1; omega) (by rw [e1, v1]; have := b.2; omega)
    rw [e3] at p4
    have v2 : right (tpr k n j) = true := v2
    refine ⟨d1, d2, h.rn, by rw [p1]; exact v2, ?_, ?_, ?_⟩
    · rw [p1, p4, h.rd, v1]; omega
    · rw [p1, p4, e1, v1]; have := b.1; have := b.2; omega
    · rw [p1, p4, h.rd]; omega
/-- A table like that is a tree whose distances add up. -/
theorem tab_sound (hk : KnOK k) (hs : right k.self = true) (ht : TabOK k skip r) : soundF r.d r.p k.self = true := by
  obtain ⟨m, hm, em⟩ := right_eq hs
  have esn : k.self.toNat = m := by omega
  have hself := ht.self
  rw [esn] at hself
  have rows : ∀ j, j < 16 → j ≠ m → rowNone (r.d j) (r.p j) (r.n j) = true ∨ ∃ n, RowFact k r j n := fun j hj hne => by
    rcases ht.row j hj (by omega) with h | ⟨n, h⟩
    · exact Or.inl h
    · exact Or.inr ⟨n, row_fact hk hs ht hj h⟩
  have inu : ∀ i, inU (r.d i) := fun i => by
    by_cases hi : i < 16
    · by_cases e : i = m
      · subst e; rw [hself.1]; exact ⟨by omega, by omega⟩
      · rcases rows i hi e with h | ⟨n, h⟩
        · rw [(none_iff.1 h).1]; exact ⟨by omega, by omega⟩
        · have := h.d1; have := h.d2; exact ⟨by omega, by omega⟩
    · rw [(ht.hi i (by omega)).1]; exact ⟨by omega, by omega⟩
  have hroot : rootF r.d = m := rootF_one hm fun i hi => ⟨fun h0 => by
    refine Classical.byContradiction fun e => ?_
    rcases rows i hi e with h | ⟨n, h⟩
    · rw [(none_iff.1 h).1] at h0; omega
    · have := h.d1; omega, fun e => by rw [e]; exact hself.1⟩
  have step : ∀ j, right j = true → j ≠ k.self → r.d j.toNat ≠ 4294967295 → right (r.p j.toNat) = true ∧ r.d (r.p j.toNat).toNat ≠ 4294967295 ∧ r.d (r.p j.toNat).toNat < r.d j.toNat := fun j hj hne hd => by
    obtain ⟨i, hi, rfl⟩ := right_eq hj
    rw [Int.toNat_natCast] at hd ⊢
    rcases rows i hi (by omega) with h | ⟨n, h⟩
    · exact absurd (none_iff.1 h).1 hd
    · exact ⟨h.pr, h.pf, h.pd⟩
  unfold soundF
  rw [hs, hroot, esn, hself.2.1, em]
  have hall : ((List.range 16).all fun j => ((j : Int) == (m : Int)) || fitsF r.d r.p (m : Int) j) = true := by
    rw [List.all_eq_true]
    intro j hj
    have hj : j < 16 := by simpa using hj
    by_cases e : j = m
    · simp [e]
    · rw [Bool.or_eq_true]
      right
      unfold fitsF
      rcases rows j hj e with h | ⟨n, h⟩
      · obtain ⟨h1, h2, _⟩ := none_iff.1 h
        rw [if_pos h1, h2]; rfl
      · have hf : r.d j ≠ 4294967295 := by have := h.d2; omega
        rw [if_neg hf]
        have hjr : right (j : Int) = true := right_of hj
        obtain ⟨w1, w2⟩ := wOk_of (p := r.p) inu hjr (by simpa using hf) (by simpa using h.pr) (by simpa using h.pf) (by simpa using h.pd)
        obtain ⟨q, hq, hb, hc, hne, _⟩ := back_of_mono hs step hjr (by simpa using hf)
        have hh := hops_of_way hb
        have q1 : 1 ≤ q := by
          cases q with
          | zero => exact absurd (show (j : Int) = k.self from hc) (by omega)
          | succ q => omega
        rw [← em, w1, w2, hh]
        have := h.pw
        simp only [Int.toNat_natCast, Bool.true_and, Bool.and_eq_true, decide_eq_true_eq]
        exact ⟨this, by omega⟩
  rw [hall]; simp
end
theorem farD_at {i : Nat} (h : i < 16) : farD i = 4294967295 := by simp [fillTo, h]
theorem farP_at {i : Nat} (h : i < 16) : farP i = -1 := by simp [fillTo, h]
theorem empty_ok {k : Kn} (skip : Int) (hs : right k.self = true) : TabOK k skip (emptyR k.self) := by
  obtain ⟨m, hm, em⟩ := right_eq hs
  have e : (emptyR k.self).d = setN farD m 0 := by
    show putN farD k.self 0 = _
    unfold putN; rw [if_pos hs]; congr 1; omega
  have esn : k.self.toNat = m := by omega
  refine ⟨fun i hi => ⟨?_, ?_, ?_⟩, ?_, fun j hj hne => Or.inl (none_iff.2 ⟨?_, farP_at hj, farP_at hj⟩)⟩
  · rw [e, setN_ne _ _ (by omega)]; exact fillTo_at _ _ _ _ hi
  · exact fillTo_at (fun _ => (-1 : Int)) (fun _ => (0 : Int)) 16 i hi
  · exact fillTo_at (fun _ => (-1 : Int)) (fun _ => (0 : Int)) 16 i hi
  · rw [esn, e]; exact ⟨setN_eq _ _ _, farP_at hm, farP_at hm⟩
  · rw [e, setN_ne _ _ (by omega)]; exact farD_at hj
theorem rowNone_of_n {a b c : Int} (h : 0 ≤ c) : rowNone a b c = false := by
  cases e : rowNone a b c with
  | false => rfl
  | true => have := (none_iff.1 e).2.2; omega
/-- One turn more. -/
theorem step_ok {k : Kn} {skip : Int} (hk : KnOK k) (hs : right k.self = true) {r : Rw} (ht : TabOK k skip r) {n : Int} {j : Nat} (hn : n ∈ listTo k.up 16) (hj : j < 16) (hc : Cand k r skip n j) :
    TabOK k skip ⟨setN r.d j (alRd k n j), setN r.p j (alRp k n j), setN r.n j (alRn k n j)⟩ ∧ ∃ m : Nat, n = m ∧ RowIn k skip ⟨setN r.d j (alRd k n j), setN r.p j (alRp k n j), setN r.n j (alRn k n j)⟩ j m := by
  obtain ⟨hno, hsk, hok⟩ := hc
  obtain ⟨m, hm, rfl, hup⟩ := mem_listTo.1 hn
  have hpre : alPre k m j = true := by
    unfold alOk at hok; rw [Bool.and_eq_true] at hok; exact hok.1
  have pre := pre_ok hpre
  have hend : (if ((j : Int) == (m : Int)) = true then tol k m j == 0 else alMid k m j && alEnd k r m j) = true := by
    unfold alOk at hok; rw [Bool.and_eq_true] at hok; exact hok.2
  have hhas : alHas k m j = true := by
    unfold alHas; rw [hpre, Bool.true_and, Bool.or_eq_true]
    by_cases e : ((j : Int) == (m : Int)) = true
    · exact Or.inl e
    · rw [if_neg e, Bool.and_eq_true] at hend; exact Or.inr hend.1
  have ed : alRd k m j = alD k m j := if_pos hhas
  have ep : alRp k m j = if ((j : Int) == (m : Int)) = true then k.self else tpr k m j := if_pos hhas
  have en : alRn k m j = m := if_pos hhas
  have hjs : (j : Int) ≠ k.self := pre.js
  obtain ⟨sm, hsm, esm⟩ := right_eq hs
  have esn : k.self.toNat = sm := by omega
  have old : ∀ i n', RowIn k skip r i n' → i ≠ j := fun i n' h e => by
    subst e
    have h1 := h.rn
    have h2 := (none_iff.1 hno).2.2
    rw [h2] at h1; omega
  have keep : ∀ x : Nat, r.n x = (m : Int) → x ≠ j := fun x hx e => by
    subst e
    have h2 := (none_iff.1 hno).2.2
    rw [h2] at hx; omega
  have keep2 : ∀ (x n' : Nat), r.n x = (n' : Int) → x ≠ j := fun x n' hx e => by
    subst e
    have h2 := (none_iff.1 hno).2.2
    rw [h2] at hx; omega
  have new : RowIn k skip ⟨setN r.d j (alRd k m j), setN r.p j (alRp k m j), setN r.n j (alRn k m j)⟩ j m := by
    refine ⟨hm, ?_, hup, hpre, hsk, ?_, fun e => ?_, fun e => ?_⟩
    · show setN r.n j _ j = _; rw [setN_eq, en]
    · show setN r.d j _ j = _; rw [setN_eq, ed]
    · have e' : ((j : Int) == (m : Int)) = true := by simpa using e
      rw [if_pos e'] at hend
      refine ⟨?_, by simpa using hend⟩
      show setN r.p j _ j = _
      rw [setN_eq, ep, if_pos e']
    · have e' : ¬ ((j : Int) == (m : Int)) = true := by simpa using e
      rw [if_neg e', Bool.and_eq_true] at hend
      obtain ⟨g1, g2⟩ := hend
      simp only [alEnd, Bool.and_eq_true, beq_iff_eq] at g2
      have hne := keep _ g2.1
      refine ⟨?_, g1, ?_, ?_⟩
      · show setN r.p j _ j = _
        rw [setN_eq, ep, if_neg e']
      · show setN r.n j _ _ = _
        rw [setN_ne _ _ hne]; exact g2.1
      · show setN r.d j _ _ = _
        rw [setN_ne _ _ hne]; exact g2.2
  refine ⟨⟨fun i hi => ?_, ?_, fun i hi hne => ?_⟩, m, rfl, new⟩
  · have : i ≠ j := by omega
    exact ⟨by show setN r.d j _ i = 0; rw [setN_ne _ _ this]; exact (ht.hi i hi).1, by show setN r.p j _ i = 0; rw [setN_ne _ _ this]; exact (ht.hi i hi).2.1, by show setN r.n j _ i = 0; rw [setN_ne _ _ this]; exact (ht.hi i hi).2.2⟩
  · have : k.self.toNat ≠ j := by omega
    exact ⟨by show setN r.d j _ _ = 0; rw [setN_ne _ _ this]; exact ht.self.1, by show setN r.p j _ _ = -1; rw [setN_ne _ _ this]; exact ht.self.2.1, by show setN r.n j _ _ = -1; rw [setN_ne _ _ this]; exact ht.self.2.2⟩
  · by_cases e : i = j
    · subst e; exact Or.inr ⟨m, new⟩
    · show rowNone (setN r.d j _ i) (setN r.p j _ i) (setN r.n j _ i) = true ∨ _
      rw [setN_ne _ _ e, setN_ne _ _ e, setN_ne _ _ e]
      rcases ht.row i hi hne with h | ⟨n', h⟩
      · exact Or.inl h
      · refine Or.inr ⟨n', ⟨h.n16, ?_, h.up, h.pre, h.skip, ?_, fun q => ?_, fun q => ?_⟩⟩
        · show setN r.n j _ i = _; rw [setN_ne _ _ e]; exact h.rn
        · show setN r.d j _ i = _; rw [setN_ne _ _ e]; exact h.rd
        · show setN r.p j _ i = _ ∧ _; rw [setN_ne _ _ e]; exact h.end1 q
        · obtain ⟨g1, g2, g3, g4⟩ := h.end2 q
          have hne2 := keep2 _ _ g3
          refine ⟨?_, g2, ?_, ?_⟩
          · show setN r.p j _ i = _; rw [setN_ne _ _ e]; exact g1
          · show setN r.n j _ _ = _; rw [setN_ne _ _ hne2]; exact g3
          · show setN r.d j _ _ = _; rw [setN_ne _ _ hne2]; exact g4
theorem setStep_cases (k : Kn) (skip : Int) (r : Rw) : (near k r skip = bst0 ∧ setStep k skip r = r) ∨ ∃ (n : Int) (j : Nat), n ∈ listTo k.up 16 ∧ j < 16 ∧ Cand k r skip n j ∧ near k r skip = ⟨j, alRd k n j, alRp k n j, alRn k n j⟩ ∧ setStep k skip r = ⟨setN r.d j (alRd k n j), setN r.p j (alRp k n j), setN r.n j (alRn k n j)⟩ := by
  rcases near_found k r skip with h | ⟨n, j, h1, h2, h3, h4⟩
  · refine Or.inl ⟨h, ?_⟩
    unfold setStep; rw [h]; rfl
  · refine Or.inr ⟨n, j, h1, h2, h3, h4, ?_⟩
    have hhas : alHas k n j = true := by
      have hok := h3.2.2
      unfold alOk at hok
      rw [Bool.and_eq_true] at hok
      unfold alHas; rw [hok.1, Bool.true_and, Bool.or_eq_true]
      by_cases e : ((j : Int) == n) = true
      · exact Or.inl e
      · have := hok.2
        rw [if_neg e, Bool.and_eq_true] at this; exact Or.inr this.1
    have en : alRn k n j = n := if_pos hhas
    obtain ⟨m, hm, rfl, _⟩ := mem_listTo.1 h1
    unfold setStep
    rw [h4, if_neg (by show ¬ rowNone _ _ (alRn k m j) = true; rw [en, rowNone_of_n (by omega)]; exact Bool.false_ne_true)]
    rfl
theorem tab_ok {k : Kn} {skip : Int} (hk : KnOK k) (hs : right k.self = true) : ∀ t, TabOK k skip (setTo k skip t)
  | 0 => empty_ok skip hs
  | t + 1 => by
    have ih := tab_ok (skip := skip) hk hs t
    show TabOK k skip (setStep k skip (setTo k skip t))
    rcases setStep_cases k skip (setTo k skip t) with ⟨_, e⟩ | ⟨n, j, h1, h2, h3, _, e⟩
    · rw [e]; exact ih
    · rw [e]; exact (step_ok hk hs ih h1 h2 h3).1
theorem settle_ok {k : Kn} {skip : Int} (hk : KnOK k) (hs : right k.self = true) : TabOK k skip (settleF k skip) := tab_ok hk hs 15
end Go.Proofs.Ytfbaikkadndckaa.Ev
