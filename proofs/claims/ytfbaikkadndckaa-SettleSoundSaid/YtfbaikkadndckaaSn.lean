/- Plain laws of one's own table, further: turn by turn; least distances; spare neighbours. -/
import Derived.Test.YtfbaikkadndckaaSm
import Derived.Test.YtfbaikkadndckaaFe
namespace Go.Proofs.Ytfbaikkadndckaa.Ev
open Go
attribute [local congr] ob_congr sq_congr cd_congr ite_congr1 iter_congr it1_congr jumps_congr
set_option maxRecDepth 100000
set_option linter.unusedSimpArgs false
set_option linter.unusedVariables false

theorem rem16 {j : Int} (hj : inI j) : ∃ m : Nat, m < 16 ∧ IntKind.i64.wrap ((IntKind.u64.wrap j).tmod 16) = (m : Int) := by
  have e : IntKind.u64.wrap j = j % 18446744073709551616 := rfl
  rw [e]
  have h0 : 0 ≤ j % 18446744073709551616 := by omega
  rw [Int.tmod_eq_emod_of_nonneg h0]
  refine ⟨((j % 18446744073709551616) % 16).toNat, by omega, ?_⟩
  rw [IntWalk.i64_in _ (by omega)]; omega

section
variable {k : Kn} {skip : Int}
theorem rowNone_alRn {n : Int} {j : Nat} {r : Rw} (hn : n ∈ listTo k.up 16) (h : Cand k r skip n j) : alRn k n j = n ∧ alRd k n j = alD k n j ∧ 0 ≤ n ∧ PreOK k n j := by
  have hok := h.2.2
  unfold alOk at hok
  rw [Bool.and_eq_true] at hok
  have hhas : alHas k n j = true := by
    unfold alHas; rw [hok.1, Bool.true_and, Bool.or_eq_true]
    by_cases e : ((j : Int) == n) = true
    · exact Or.inl e
    · have := hok.2
      rw [if_neg e, Bool.and_eq_true] at this; exact Or.inr this.1
  obtain ⟨m, hm, rfl, _⟩ := mem_listTo.1 hn
  exact ⟨if_pos hhas, if_pos hhas, by omega, pre_ok hok.1⟩
/-- What a turn puts in. -/
def Turn (k : Kn) (skip : Int) (t : Nat) (n : Int) (j : Nat) : Prop := n ∈ listTo k.up 16 ∧ j < 16 ∧ Cand k (setTo k skip t) skip n j ∧ near k (setTo k skip t) skip = ⟨j, alRd k n j, alRp k n j, alRn k n j⟩ ∧
  setTo k skip (t + 1) = ⟨setN (setTo k skip t).d j (alRd k n j), setN (setTo k skip t).p j (alRp k n j), setN (setTo k skip t).n j (alRn k n j)⟩
theorem turn_or (k : Kn) (skip : Int) (t : Nat) : (near k (setTo k skip t) skip = bst0 ∧ ∀ t', t ≤ t' → setTo k skip t' = setTo k skip t) ∨ ∃ n j, Turn k skip t n j := by
  rcases setStep_cases k skip (setTo k skip t) with ⟨h1, h2⟩ | ⟨n, j, h1, h2, h3, h4, h5⟩
  · exact Or.inl ⟨h1, setTo_stop (by rw [h1]; rfl)⟩
  · exact Or.inr ⟨n, j, h1, h2, h3, h4, h5⟩
theorem turn_before {t t' : Nat} {n' : Int} {j' : Nat} (ht : t ≤ t') (h : Turn k skip t' n' j') : ∃ n j, Turn k skip t n j := by
  rcases turn_or k skip t with ⟨h1, h2⟩ | h1
  · exfalso
    have e := h2 t' ht
    have h4 := h.2.2.2.1
    rw [e, h1] at h4
    have h6 := congrArg Bst.at' h4
    have : (-1 : Int) = (j' : Int) := h6
    omega
  · exact h1
theorem turn_none {t : Nat} {n : Int} {j : Nat} (h : Turn k skip t n j) : rowNone ((setTo k skip (t + 1)).d j) ((setTo k skip (t + 1)).p j) ((setTo k skip (t + 1)).n j) = false := by
  rw [h.2.2.2.2]
  obtain ⟨e, _, h0, _⟩ := rowNone_alRn h.1 h.2.2.1
  refine rowNone_of_n ?_
  show 0 ≤ setN _ j (alRn k n j) j
  rw [setN_eq, e]; exact h0
/-- A row that is in stays. -/
theorem stays {t : Nat} {j : Nat} (h : rowNone ((setTo k skip t).d j) ((setTo k skip t).p j) ((setTo k skip t).n j) = false) : ∀ t', t ≤ t' → (setTo k skip t').d j = (setTo k skip t).d j ∧ (setTo k skip t').p j = (setTo k skip t).p j ∧ (setTo k skip t').n j = (setTo k skip t).n j := by
  intro t' ht
  induction t' with
  | zero => have : t = 0 := by omega
            subst this; exact ⟨rfl, rfl, rfl⟩
  | succ t' ih =>
    by_cases e : t = t' + 1
    · rw [e]; exact ⟨rfl, rfl, rfl⟩
    · obtain ⟨h1, h2, h3⟩ := ih (by omega)
      rcases turn_or k skip t' with ⟨_, q⟩ | ⟨n, i, q⟩
      · rw [q (t' + 1) (by omega)]; exact ⟨h1, h2, h3⟩
      · have hne : j ≠ i := fun e => by
          subst e
          have := q.2.2.1.1
          rw [h1, h2, h3, h] at this; cases this
        rw [q.2.2.2.2]
        exact ⟨by show setN _ i _ j = _; rw [setN_ne _ _ hne]; exact h1, by show setN _ i _ j = _; rw [setN_ne _ _ hne]; exact h2, by show setN _ i _ j = _; rw [setN_ne _ _ hne]; exact h3⟩
theorem none_before {t t' : Nat} {j : Nat} (ht : t ≤ t') (h : rowNone ((setTo k skip t').d j) ((setTo k skip t').p j) ((setTo k skip t').n j) = true) : rowNone ((setTo k skip t).d j) ((setTo k skip t).p j) ((setTo k skip t).n j) = true := by
  cases e : rowNone ((setTo k skip t).d j) ((setTo k skip t).p j) ((setTo k skip t).n j) with
  | true => rfl
  | false =>
    obtain ⟨h1, h2, h3⟩ := stays e t' ht
    rw [h1, h2, h3, e] at h; cases h
theorem turn_d {t t' : Nat} {n : Int} {j : Nat} (h : Turn k skip t n j) (ht : t < t') : (setTo k skip t').d j = alRd k n j ∧ (setTo k skip t').n j = n := by
  obtain ⟨h1, _, h3⟩ := stays (turn_none h) t' (by omega)
  rw [h1, h3, h.2.2.2.2]
  obtain ⟨e, _, _⟩ := rowNone_alRn h.1 h.2.2.1
  exact ⟨setN_eq _ _ _, (setN_eq _ _ _).trans e⟩
/-- Turn by turn the distances rise. -/
theorem rise1 (hk : KnOK k) {t : Nat} {n n' : Int} {j j' : Nat} (h : Turn k skip t n j) (h' : Turn k skip (t + 1) n' j') : alRd k n j ≤ alRd k n' j' := by
  have c' := h'.2.2.1
  have hno := none_before (Nat.le_succ t) c'.1
  obtain ⟨e1, e2, e3, pre'⟩ := rowNone_alRn h'.1 c'
  have hm : (near k (setTo k skip t) skip).a = alRd k n j := by rw [h.2.2.2.1]
  by_cases hc : Cand k (setTo k skip t) skip n' j'
  · have := near_min k (setTo k skip t) skip h'.1 h'.2.1 hc
    rw [hm] at this; exact this
  · have ha : ¬ alOk k (setTo k skip t) n' j' = true := fun q => hc ⟨hno, c'.2.1, q⟩
    have hb := c'.2.2
    unfold alOk at ha hb
    rw [Bool.and_eq_true] at ha hb
    obtain ⟨b1, b2⟩ := hb
    by_cases e : ((j' : Int) == n') = true
    · rw [if_pos e] at ha b2; exact absurd ⟨b1, b2⟩ ha
    · rw [if_neg e, Bool.and_eq_true] at ha b2
      obtain ⟨b2, b3⟩ := b2
      simp only [alEnd, Bool.and_eq_true, beq_iff_eq] at b3
      simp only [alEnd, Bool.and_eq_true, beq_iff_eq] at ha
      have hx : (tpr k n' j').toNat = j := Classical.byContradiction fun hne => ha ⟨b1, b2, by
        rw [h.2.2.2.2] at b3
        obtain ⟨b4, b5⟩ := b3
        have b4 : setN (setTo k skip t).n j (alRn k n j) (tpr k n' j').toNat = n' := b4
        have b5 : setN (setTo k skip t).d j (alRd k n j) (tpr k n' j').toNat = _ := b5
        rw [setN_ne _ _ hne] at b4 b5
        exact ⟨b4, b5⟩⟩
      have b5 := b3.2
      rw [hx, (turn_d h (Nat.lt_succ_self t)).1] at b5
      obtain ⟨d1, d2⟩ := alD_eq hk pre'
      simp only [alMid, Bool.and_eq_true, bne_iff_ne, ne_eq, decide_eq_true_eq] at b2
      obtain ⟨w1, w2, w3, w4, w5⟩ := wV_of (hk.tD _) b2.1
      have w1 : alW k n' j' = tol k n' j' - k.tD n'.toNat (tpr k n' j').toNat := w1
      have w4 : k.tD n'.toNat (tpr k n' j').toNat < tol k n' j' := w4
      have bb := hk.tD n'.toNat (tpr k n' j').toNat
      have c1 := pre'.c1; have c2 := pre'.c2; have t2 := pre'.t2
      have e4 : IntKind.u32.wrap (alD k n' j' - alW k n' j') = alD k n' j' - alW k n' j' := u32_id (by rw [d1, w1]; have := bb.1; omega) (by rw [d1, w1]; have := bb.2; omega)
      rw [e4] at b5
      rw [b5, e2]; omega
theorem rise (hk : KnOK k) : ∀ (e t : Nat) {n n' : Int} {j j' : Nat}, Turn k skip t n j → Turn k skip (t + e) n' j' → alRd k n j ≤ alRd k n' j'
  | 0, t, n, n', j, j', h, h' => by
    have h1 := h.2.2.2.1
    have h2 := h'.2.2.2.1
    rw [Nat.add_zero] at h2
    rw [h2] at h1
    have := congrArg Bst.a h1
    exact Int.le_of_eq this.symm
  | e + 1, t, n, n', j, j', h, h' => by
    obtain ⟨n2, j2, h2⟩ := turn_before (t := t + e) (by omega) h'
    exact Int.le_trans (rise hk e t h h2) (rise1 hk h2 h')
/-- When a row was put in. -/
theorem put_in (hs : right k.self = true) : ∀ T, ∀ j : Nat, j < 16 → (j : Int) ≠ k.self → rowNone ((setTo k skip T).d j) ((setTo k skip T).p j) ((setTo k skip T).n j) = false → ∃ t n, t < T ∧ Turn k skip t n j
  | 0, j, hj, hne, h => by
    exfalso
    obtain ⟨m, hm, em⟩ := right_eq hs
    have e : (setTo k skip 0).d j = 4294967295 := by
      show putN farD k.self 0 j = _
      unfold putN; rw [if_pos hs, setN_ne _ _ (by omega)]; exact farD_at hj
    have : rowNone ((setTo k skip 0).d j) ((setTo k skip 0).p j) ((setTo k skip 0).n j) = true := none_iff.2 ⟨e, farP_at hj, farP_at hj⟩
    rw [this] at h; cases h
  | T + 1, j, hj, hne, h => by
    cases e : rowNone ((setTo k skip T).d j) ((setTo k skip T).p j) ((setTo k skip T).n j) with
    | false =>
      obtain ⟨t, n, ht, q⟩ := put_in hs T j hj hne e
      exact ⟨t, n, by omega, q⟩
    | true =>
      rcases turn_or k skip T with ⟨_, q⟩ | ⟨n, i, q⟩
      · rw [q (T + 1) (by omega), e] at h; cases h
      · by_cases hij : j = i
        · subst hij; exact ⟨T, n, by omega, q⟩
        · exfalso
          rw [q.2.2.2.2] at h
          have h : rowNone (setN _ i _ j) (setN _ i _ j) (setN _ i _ j) = false := h
          rw [setN_ne _ _ hij, setN_ne _ _ hij, setN_ne _ _ hij, e] at h; cases h
/-- No row that may be is missing, and none could be better. -/
theorem settle_best (hk : KnOK k) (hs : right k.self = true) {n : Int} {j : Nat} (hn : n ∈ listTo k.up 16) (hj : j < 16) (hok : alOk k (settleF k skip) n j = true) (hsk : has skip j = false) : ¬ alRd k n j < (settleF k skip).d j := by
  intro hlt
  have hpre : alPre k n j = true := by unfold alOk at hok; rw [Bool.and_eq_true] at hok; exact hok.1
  have pre := pre_ok hpre
  have ht := settle_ok (skip := skip) hk hs
  cases e : rowNone ((settleF k skip).d j) ((settleF k skip).p j) ((settleF k skip).n j) with
  | true =>
    have hc : Cand k (settleF k skip) skip n j := ⟨e, hsk, hok⟩
    have hmin := near_min k (settleF k skip) skip hn hj hc
    obtain ⟨_, e2, _, _⟩ := rowNone_alRn hn hc
    obtain ⟨d1, d2⟩ := alD_eq hk pre
    have hne : near k (settleF k skip) skip ≠ bst0 := fun q => by
      rw [q, e2, d1] at hmin
      have hmin : (4294967295 : Int) ≤ tol k n j + kc k n := hmin
      have := pre.t2; have := pre.c2; omega
    have all : ∀ t, t ≤ 15 → ∃ n j, Turn k skip t n j := fun t ht => by
      rcases turn_or k skip t with ⟨h1, h2⟩ | h
      · exfalso
        have e := h2 15 ht
        have : settleF k skip = setTo k skip t := e
        rw [this] at hne; exact hne h1
      · exact h
    have hch : ∀ t, ∃ i, t ≤ 15 → ∃ n, Turn k skip t n i := fun t => by
      by_cases ht : t ≤ 15
      · obtain ⟨n, i, h⟩ := all t ht; exact ⟨i, fun _ => ⟨n, h⟩⟩
      · exact ⟨0, fun h => absurd h ht⟩
    obtain ⟨f, hf⟩ := Classical.axiomOfChoice hch
    obtain ⟨m, hm, em⟩ := right_eq hs
    have fself : ∀ t, t ≤ 15 → f t ≠ m := fun t ht e => by
      obtain ⟨n', h⟩ := hf t ht
      have := (rowNone_alRn h.1 h.2.2.1).2.2.2.js
      rw [e, em] at this; exact this rfl
    refine pigeon 16 (fun i => if i = 16 then m else f i) (fun i hi => ?_) (fun i i' hii hi' => ?_)
    · show (if i = 16 then m else f i) < 16
      split
      · exact hm
      · obtain ⟨n', h⟩ := hf i (by omega); exact h.2.1
    · show (if i = 16 then m else f i) ≠ (if i' = 16 then m else f i')
      rw [if_neg (by omega)]
      split
      · exact fself i (by omega)
      · intro e'
        obtain ⟨n1, h1⟩ := hf i (by omega)
        obtain ⟨n2, h2⟩ := hf i' (by omega)
        have := none_before (t := i + 1) (t' := i') (by omega) h2.2.2.1.1
        rw [← e', turn_none h1] at this; cases this
  | false =>
    have hjs : (j : Int) ≠ k.self := pre.js
    obtain ⟨t0, n0, ht0, T0⟩ := put_in (skip := skip) hs 15 j hj hjs e
    have hd0 : (settleF k skip).d j = alRd k n0 j := (turn_d T0 ht0).1
    have hno0 := T0.2.2.1.1
    have hm0 : (near k (setTo k skip t0) skip).a = alRd k n0 j := by rw [T0.2.2.2.1]
    have bad : Cand k (setTo k skip t0) skip n j → False := fun hc => by
      have := near_min k (setTo k skip t0) skip hn hj hc
      rw [hm0] at this
      rw [hd0] at hlt; omega
    unfold alOk at hok
    rw [Bool.and_eq_true] at hok
    obtain ⟨o1, o2⟩ := hok
    by_cases ej : ((j : Int) == n) = true
    · refine bad ⟨hno0, hsk, ?_⟩
      rw [if_pos ej] at o2
      unfold alOk; rw [o1, if_pos ej, o2]; rfl
    · have o2' := o2
      rw [if_neg ej, Bool.and_eq_true] at o2'
      obtain ⟨o3, o4⟩ := o2'
      have o4' := o4
      simp only [alEnd, Bool.and_eq_true, beq_iff_eq] at o4'
      obtain ⟨x1, x2⟩ := o4'
      simp only [alMid, Bool.and_eq_true, bne_iff_ne, ne_eq, decide_eq_true_eq] at o3
      obtain ⟨g1, g2, g3, g4⟩ := o3
      obtain ⟨w1, w2, w3, w4, w5⟩ := wV_of (hk.tD _) g1
      have w1 : alW k n j = tol k n j - k.tD n.toNat (tpr k n j).toNat := w1
      have w2 : right (tpr k n j) = true := w2
      have w4 : k.tD n.toNat (tpr k n j).toNat < tol k n j := w4
      have bb := hk.tD n.toNat (tpr k n j).toNat
      obtain ⟨d1, d2⟩ := alD_eq hk pre
      have c1 := pre.c1; have c2 := pre.c2; have t2 := pre.t2
      have e4 : IntKind.u32.wrap (alD k n j - alW k n j) = alD k n j - alW k n j := u32_id (by rw [d1, w1]; have := bb.1; omega) (by rw [d1, w1]; have := bb.2; omega)
      obtain ⟨x, hx, ex⟩ := right_eq w2
      have etx : (tpr k n j).toNat = x := by omega
      rw [etx] at x1 x2
      obtain ⟨m', hm', en', _⟩ := mem_listTo.1 hn
      have hxs : (x : Int) ≠ k.self := by rw [← ex]; exact g3
      have hxn : rowNone ((settleF k skip).d x) ((settleF k skip).p x) ((settleF k skip).n x) = false := rowNone_of_n (by rw [x1]; omega)
      obtain ⟨t1, n1, ht1, T1⟩ := put_in (skip := skip) hs 15 x hx hxs hxn
      have hd1 : (settleF k skip).d x = alRd k n1 x := (turn_d T1 ht1).1
      have hhas : alHas k n j = true := by
        unfold alHas; rw [o1, Bool.true_and, Bool.or_eq_true]; right
        simp only [alMid, Bool.and_eq_true, bne_iff_ne, ne_eq, decide_eq_true_eq]
        exact ⟨g1, g2, g3, g4⟩
      have erd : alRd k n j = alD k n j := if_pos hhas
      have hxj : (settleF k skip).d x < (settleF k skip).d j := by
        rw [x2, e4]; rw [erd] at hlt; omega
      rcases Nat.lt_or_ge t1 t0 with h | h
      · have q := turn_d T1 h
        have q2 := turn_d T1 ht1
        refine bad ⟨hno0, hsk, ?_⟩
        have hm2 : alMid k n j = true := by
          simp only [alMid, Bool.and_eq_true, bne_iff_ne, ne_eq, decide_eq_true_eq]
          exact ⟨g1, g2, g3, g4⟩
        have he2 : alEnd k (setTo k skip t0) n j = true := by
          simp only [alEnd, Bool.and_eq_true, beq_iff_eq]
          rw [etx, q.1, q.2, ← q2.1, ← q2.2]
          exact ⟨x1, x2⟩
        unfold alOk; rw [o1, if_neg ej, hm2, he2]; rfl
      · have := rise hk (t1 - t0) t0 T0 (by rw [show t0 + (t1 - t0) = t1 by omega]; exact T1)
        rw [← hd0, ← hd1] at this; omega
end

theorem tb_ffff {i : Nat} (h : i < 64) : tb 65535 i = decide (i < 16) := by
  have : ∀ i, i < 64 → tb 65535 i = decide (i < 16) := by decide
  exact this i h
theorem setOf_low (c : Nat → Bool) : bits .and .i64 (setOf c 16) 65535 = setOf c 16 := tb_ext (inI_bits _ _ _) (inI_setOf _ _) fun i hi => by
  rw [tb_and, tb_setOf c i 16 (Nat.le_refl _), tb_ffff hi]
  by_cases h : i < 16 <;> simp [h]
theorem setOf_zero {c : Nat → Bool} (h : ∀ j, j < 16 → c j = false) : setOf c 16 = 0 := tb_ext (inI_setOf _ _) inI_zero fun i _ => by
  rw [tb_setOf c i 16 (Nat.le_refl _), tb_zero]
  by_cases hi : i < 16
  · simp [h i hi]
  · simp [hi]
theorem of_setOf_zero {c : Nat → Bool} (h : setOf c 16 = 0) {j : Nat} (hj : j < 16) : c j = false := by
  rw [← has_setOf c hj, h, has_zero]
theorem inI_setL (c : Int → Bool) (L : List Int) : ∀ i, inI (setL c L i)
  | 0 => inI_zero
  | i + 1 => by
    rw [setL_succ c L i rfl]
    split
    · exact inI_withN (inI_setL c L i) _
    · exact inI_setL c L i
theorem has_setL {c : Int → Bool} {L : List Int} {x : Int} (hx : right x = true) (hc : c x = true) : ∀ i, i ≤ L.length → x ∈ L.take i → has (setL c L i) x = true
  | 0, _, h => by simp at h
  | i + 1, hi, h => by
    rw [setL_succ c L i rfl]
    have e : L.getD i 0 = L[i] := by simp [List.getD, List.getElem?_eq_getElem (by omega : i < L.length)]
    rw [e]
    rw [List.take_succ_eq_append_getElem (by omega : i < L.length), List.mem_append, List.mem_singleton] at h
    rcases h with h | h
    · have ih := has_setL hx hc i (by omega) h
      split
      · rw [has_withN (inI_setL c L i), ih]; rfl
      · exact ih
    · rw [← h, if_pos hc, has_withN (inI_setL c L i), hx]; simp
theorem resetTo_at (L : List Int) (l : Nat → Int) (q : Nat) : ∀ i, i ≤ L.length → (resetTo L l i q = 4294967295 ∧ ∃ x ∈ L.take i, x.toNat = q) ∨ (resetTo L l i q = l q ∧ ∀ x ∈ L.take i, x.toNat ≠ q)
  | 0, _ => Or.inr ⟨rfl, fun x hx => by simp at hx⟩
  | i + 1, hi => by
    have e : resetTo L l (i + 1) = setN (resetTo L l i) (L.getD i 0).toNat 4294967295 := rfl
    have e2 : L.getD i 0 = L[i] := by simp [List.getD, List.getElem?_eq_getElem (by omega : i < L.length)]
    rw [e, e2, List.take_succ_eq_append_getElem (by omega : i < L.length)]
    by_cases h : q = (L[i]).toNat
    · left
      refine ⟨by rw [h, setN_eq], L[i], by rw [List.mem_append]; exact Or.inr (List.mem_singleton.2 rfl), h.symm⟩
    · rw [setN_ne _ _ h]
      rcases resetTo_at L l q i (by omega) with ⟨h1, x, hx, h2⟩ | ⟨h1, h2⟩
      · exact Or.inl ⟨h1, x, List.mem_append.2 (Or.inl hx), h2⟩
      · refine Or.inr ⟨h1, fun x hx => ?_⟩
        rcases List.mem_append.1 hx with hx | hx
        · exact h2 x hx
        · rw [List.mem_singleton.1 hx]; exact fun e => h e.symm
theorem resetF_at (set : Int) (l : Nat → Int) {q : Nat} (hq : q < 16) : resetF set l q = if has set q = true then 4294967295 else l q := by
  unfold resetF
  rcases resetTo_at (listTo set 16) l q _ (Nat.le_refl _) with ⟨h1, x, hx, h2⟩ | ⟨h1, h2⟩
  · rw [List.take_length] at hx
    obtain ⟨m, hm, rfl, hh⟩ := mem_listTo.1 hx
    have : m = q := by omega
    subst this
    rw [h1, if_pos hh]
  · rw [List.take_length] at h2
    rw [h1, if_neg fun hh => h2 q (mem_listTo.2 ⟨q, hq, rfl, hh⟩) (by omega)]
section
variable {k : Kn} {skip : Int} {r : Rw}
/-- Rows whose way is safe, by what is told. -/
theorem row_tol (ht : TabOK k skip r) {j : Nat} (hj : j < 16) (hn : r.n j ≠ -1) : ∃ n, RowIn k skip r j n := by
  by_cases e : (j : Int) = k.self
  · have := ht.self.2.2
    rw [← e, Int.toNat_natCast] at this; exact absurd this hn
  · rcases ht.row j hj e with h | h
    · exact absurd (none_iff.1 h).2.2 hn
    · exact h
theorem reset_safe (hk : KnOK k) (ht : TabOK k skip r) (l : Nat → Int) : blkF k r.n (resetF (blkF k r.n l) l) = 0 := by
  refine setOf_zero fun j hj => ?_
  unfold blkC
  by_cases hn : r.n j = -1
  · simp [hn]
  · obtain ⟨n, h⟩ := row_tol ht hj hn
    have pre := pre_ok h.pre
    have hb : has (blkF k r.n l) j = blkC k r.n l j := has_setOf _ hj
    have hsf : safeF k (resetF (blkF k r.n l) l) (r.n j) j = true := by
      rw [safeF_eq, h.rn, pre.rn, right_of hj, Int.toNat_natCast, resetF_at _ _ hj, hb]
      have := pre.t2
      by_cases c : blkC k r.n l j = true
      · rw [if_pos c]
        simp only [Bool.true_and, decide_eq_true_eq]; omega
      · rw [if_neg c]
        have c : blkC k r.n l j = false := by simpa using c
        have hne : (r.n j != -1) = true := by simpa using hn
        unfold blkC at c
        rw [hne, Bool.true_and, Bool.not_eq_false'] at c
        rw [safeF_eq, h.rn, pre.rn, right_of hj, Int.toNat_natCast] at c
        simpa using c
    simp [hsf]
theorem blk_self (ht : TabOK k skip r) (hs : right k.self = true) (l : Nat → Int) : has (blkF k r.n l) k.self = false := by
  obtain ⟨m, hm, em⟩ := right_eq hs
  rw [em, show blkF k r.n l = setOf (blkC k r.n l) 16 from rfl, has_setOf _ hm]
  have := ht.self.2.2
  rw [em, Int.toNat_natCast] at this
  simp [blkC, this]
theorem spare_has (ht : TabOK k skip r) {l : Nat → Int} (hb : blkF k r.n l = 0) {j : Nat} (hj : j < 16) (h0 : 0 ≤ r.n j) : has (spareF k l j) (r.n j) = true := by
  obtain ⟨n, h⟩ := row_tol ht hj (by omega)
  have pre := pre_ok h.pre
  have c := of_setOf_zero hb hj
  have hne : (r.n j != -1) = true := by rw [bne_iff_ne]; omega
  unfold blkC at c
  rw [hne, Bool.true_and, Bool.not_eq_false'] at c
  have hmem : (n : Int) ∈ listTo k.up 16 := mem_listTo.2 ⟨n, h.n16, rfl, h.up⟩
  rw [h.rn]
  refine has_setL pre.rn ?_ _ (Nat.le_refl _) (by rw [List.take_length]; exact hmem)
  unfold spC
  rw [← h.rn, c, h.rn]
  simpa using pre.ns
theorem mg_pos (hk : KnOK k) {l : Nat → Int} (hl : ∀ i, inU (l i)) (n j : Int) : safeF k l n j = decide (0 < mgF k l n j) := by
  unfold mgF
  by_cases h : safeF k l n j = true
  · rw [if_pos h, h]
    have h' := h
    rw [safeF_eq, Bool.and_eq_true, Bool.and_eq_true, decide_eq_true_eq] at h'
    have a : inU (tol k n j) := gd_in (hk.tD _) j
    have b := hl j.toNat
    rw [u32_id (by omega) (by have := a.1; have := b.2; omega)]
    symm; rw [decide_eq_true_eq]; omega
  · rw [if_neg h]
    have : safeF k l n j = false := by simpa using h
    rw [this]; rfl
end
end Go.Proofs.Ytfbaikkadndckaa.Ev
