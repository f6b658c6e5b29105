/- LpaSound: whatever comes to a node, it is sound: its table is a tree from it on whose distances add up, each way in it is safe, and what is asked about is far till all replied; an operation that is refused changes nothing: the statement. It holds of every input; no condition. -/
import Derived.Test.YtfbaikkadndckaaP1
import Derived.Test.YtfbaikkadndckaaLy
import Derived.Test.YtfbaikkadndckaaG3
import Derived.Test.YtfbaikkadndckaaFacts
import Derived.Test.YtfbaikkadndckaaRows
import Derived.ProofKit
import Derived.OpenShut
namespace Go.Proofs.Ytfbaikkadndckaa.Ev
open Go
attribute [local congr] ob_congr sq_congr cd_congr ite_congr1 iter_congr it1_congr jumps_congr
set_option maxRecDepth 100000
set_option linter.unusedSimpArgs false
set_option linter.unusedVariables false
section
structure InvW (l : LP) : Prop where
  act : inI l.act
  wait : ∀ i, inI (l.wait i)
  on : ∀ j : Nat, j < 16 → has l.act j = true → l.wait j ≠ 0
theorem listTo_mem {s : Int} {m : Nat} (hm : m < 16) : (m : Int) ∈ listTo s 16 ↔ has s m = true := by
  rw [mem_listTo]
  constructor
  · rintro ⟨q, _, e, h⟩
    have : q = m := by omega
    subst this; exact h
  · intro h; exact ⟨m, hm, rfl, h⟩
theorem take_succ_mem {L : List Int} {i : Nat} {n x : Int} (h : L[i]? = some n) : x ∈ L.take (i + 1) ↔ x ∈ L.take i ∨ x = n := by
  obtain ⟨hi, e⟩ := List.getElem?_eq_some_iff.1 h
  rw [List.take_succ_eq_append_getElem hi, List.mem_append, List.mem_singleton, e]
theorem dn_has (a : Int) (w : Nat → Int) {m : Nat} (hm : m < 16) : ∀ i, i ≤ (listTo a 16).length → inI (upto (done1 w (listTo a 16)) 0 i) ∧ (has (upto (done1 w (listTo a 16)) 0 i) m = true ↔ ((m : Int) ∈ (listTo a 16).take i ∧ w m = 0))
  | 0, _ => ⟨inI_zero, by
      show has 0 (m : Int) = true ↔ _
      rw [has_zero]; simp⟩
  | i + 1, hi => by
    obtain ⟨h1, h2⟩ := dn_has a w hm i (by omega)
    obtain ⟨n, hn, hh, he⟩ := listTo_get a (show i < (listTo a 16).length by omega)
    have eg : (listTo a 16).getD i 0 = (n : Int) := by simp [List.getD, he]
    have es : upto (done1 w (listTo a 16)) 0 (i + 1) = if w n = 0 then withN (upto (done1 w (listTo a 16)) 0 i) n else upto (done1 w (listTo a 16)) 0 i := by
      show done1 w (listTo a 16) i _ = _
      unfold done1
      rw [eg, Int.toNat_natCast]
    rw [es, take_succ_mem he]
    generalize upto (done1 w (listTo a 16)) 0 i = s at h1 h2
    split
    · rename_i hz
      refine ⟨inI_withN h1 _, ?_⟩
      rw [has_withN h1, Bool.or_eq_true, h2]
      have hr := right_of hn
      simp only [hr, Bool.true_and, decide_eq_true_eq]
      constructor
      · rintro (⟨q1, q2⟩ | q)
        · exact ⟨Or.inl q1, q2⟩
        · have : m = n := by omega
          subst this; exact ⟨Or.inr rfl, hz⟩
      · rintro ⟨q1 | q1, q2⟩
        · exact Or.inl ⟨q1, q2⟩
        · exact Or.inr q1
    · rename_i hz
      refine ⟨h1, ?_⟩
      rw [h2]
      constructor
      · rintro ⟨q1, q2⟩; exact ⟨Or.inl q1, q2⟩
      · rintro ⟨q1 | q1, q2⟩
        · exact ⟨q1, q2⟩
        · have : m = n := by omega
          subst this; exact absurd q2 hz
theorem dnF_has (l : LP) {m : Nat} (hm : m < 16) : has (dnF l) m = true ↔ (has l.act m = true ∧ l.wait m = 0) := by
  unfold dnF rdD
  rw [(dn_has l.act l.wait hm _ (Nat.le_refl _)).2, List.take_length, listTo_mem hm]
theorem endA_has {s a : Int} (ha : inI a) {m : Nat} (hm : m < 16) : ∀ i, i ≤ (listTo s 16).length → inI (endA s a i) ∧ (has (endA s a i) m = true ↔ (has a m = true ∧ ¬ (m : Int) ∈ (listTo s 16).take i))
  | 0, _ => ⟨ha, by show has a m = true ↔ _; simp⟩
  | i + 1, hi => by
    obtain ⟨h1, h2⟩ := endA_has (s := s) ha hm i (by omega)
    obtain ⟨n, hn, hh, he⟩ := listTo_get s (show i < (listTo s 16).length by omega)
    rw [endA_succ s a i he, take_succ_mem he]
    refine ⟨inI_withoutN h1 _, ?_⟩
    rw [has_withoutN h1, Bool.and_eq_true, h2]
    have hr := right_of hn
    simp only [hr, Bool.true_and, Bool.not_eq_true', decide_eq_false_iff_not, not_or]
    constructor
    · rintro ⟨⟨q1, q2⟩, q3⟩; exact ⟨q1, q2, q3⟩
    · rintro ⟨q1, q2, q3⟩; exact ⟨⟨q1, q2⟩, q3⟩
theorem aF_has (l : LP) (ha : inI l.act) {m : Nat} (hm : m < 16) : has (aF l) m = true ↔ (has l.act m = true ∧ ¬ has (dnF l) m = true) := by
  unfold aF
  rw [(endA_has ha hm _ (Nat.le_refl _)).2, List.take_length, listTo_mem hm]
theorem endW_at (s : Int) (w : Nat → Int) {m : Nat} : ∀ i, i ≤ (listTo s 16).length → ¬ (m : Int) ∈ (listTo s 16).take i → endW s w i m = w m
  | 0, _, _ => rfl
  | i + 1, hi, h => by
    obtain ⟨n, hn, hh, he⟩ := listTo_get s (show i < (listTo s 16).length by omega)
    rw [take_succ_mem he, not_or] at h
    rw [endW_succ s w i he, setN_ne _ _ (by rw [Int.toNat_natCast]; intro e; exact h.2 (by rw [e]))]
    exact endW_at s w i (by omega) h.1
theorem endW_inI (s : Int) {w : Nat → Int} (hw : ∀ i, inI (w i)) : ∀ i, i ≤ (listTo s 16).length → ∀ q, inI (endW s w i q)
  | 0, _, q => hw q
  | i + 1, hi, q => by
    obtain ⟨n, hn, hh, he⟩ := listTo_get s (show i < (listTo s 16).length by omega)
    rw [endW_succ s w i he]
    exact inI_setN (endW_inI s hw i (by omega)) inI_zero q
theorem wF_at (l : LP) {m : Nat} (hm : m < 16) (h : ¬ has (dnF l) m = true) : wF l m = l.wait m := by
  unfold wF
  refine endW_at _ _ _ (Nat.le_refl _) ?_
  rw [List.take_length, listTo_mem hm]; exact h
theorem reset_at (s : Int) (le : Nat → Int) {m : Nat} : ∀ i, i ≤ (listTo s 16).length → ¬ (m : Int) ∈ (listTo s 16).take i → resetTo (listTo s 16) le i m = le m
  | 0, _, _ => rfl
  | i + 1, hi, h => by
    obtain ⟨n, hn, hh, he⟩ := listTo_get s (show i < (listTo s 16).length by omega)
    rw [take_succ_mem he, not_or] at h
    have eg : (listTo s 16).getD i 0 = (n : Int) := by simp [List.getD, he]
    show setN (resetTo (listTo s 16) le i) ((listTo s 16).getD i 0).toNat 4294967295 m = le m
    rw [eg, Int.toNat_natCast, setN_ne _ _ (by intro e; exact h.2 (by rw [e]))]
    exact reset_at s le i (by omega) h.1
theorem leF_at (l : LP) {m : Nat} (hm : m < 16) (h : ¬ has (dnF l) m = true) : leF l m = l.least m := by
  unfold leF resetF
  refine reset_at _ _ _ (Nat.le_refl _) ?_
  rw [List.take_length, listTo_mem hm]; exact h
theorem nb_ne {up : Int} {n : Nat} (hu : inI up) (hn : n < 16) (h : has up n = true) : nb (nb up) ≠ 0 := by
  intro e
  have h1 : tb (nb (nb up)) n = true := by
    unfold nb
    rw [tb_and, tb_and, tb_ones16]
    rw [has_nat hu hn] at h
    simp [h, hn]
  rw [e, tb_zero] at h1; cases h1
theorem st_inv {up bl : Int} (hup : (∃ j : Nat, j < 16 ∧ has bl j = true) → nb up ≠ 0) {s : PhS} (h1 : inI s.a) (h2 : ∀ i, inI (s.w i)) (h3 : ∀ j : Nat, j < 16 → has s.a j = true → s.w j ≠ 0) :
    ∀ i, i ≤ (listTo bl 16).length → inI (stT up bl s i).a ∧ (∀ q, inI ((stT up bl s i).w q)) ∧ ∀ j : Nat, j < 16 → has (stT up bl s i).a j = true → (stT up bl s i).w j ≠ 0
  | 0, _ => ⟨h1, h2, h3⟩
  | i + 1, hi => by
    obtain ⟨n, hn, hh, he⟩ := listTo_get bl (show i < (listTo bl 16).length by omega)
    obtain ⟨q1, q2, q3⟩ := st_inv hup h1 h2 h3 i (by omega)
    rw [stT_succ up bl s i he]
    generalize stT up bl s i = t at q1 q2 q3
    unfold st1
    split
    · rename_i hz
      refine ⟨inI_withN q1 _, inI_setN q2 (inI_bits _ _ _), fun j hj h => ?_⟩
      have h : has (withN t.a n) j = true := h
      show setN t.w (n : Int).toNat (nb up) j ≠ 0
      rw [Int.toNat_natCast]
      by_cases e : j = n
      · subst e; rw [setN_eq]; exact hup ⟨j, hj, hh⟩
      · rw [setN_ne _ _ e]
        rw [has_withN q1, Bool.or_eq_true] at h
        rcases h with h | h
        · exact q3 j hj h
        · simp only [Bool.and_eq_true, decide_eq_true_eq] at h
          omega
    · exact ⟨q1, q2, q3⟩
theorem invW_round {l : LP} (hk : KnOK l.k) (hs : right l.k.self = true) (ha : inI l.act) (hw : ∀ i, inI (l.wait i)) : InvW (roundF l (nb l.k.up)) := by
  have e1 : inI (aF l) := (endA_has (s := dnF l) ha (show 0 < 16 by omega) _ (Nat.le_refl _)).1
  have e2 : ∀ i, inI (wF l i) := endW_inI _ hw _ (Nat.le_refl _)
  have e3 : ∀ j : Nat, j < 16 → has (aF l) j = true → wF l j ≠ 0 := fun j hj h => by
    rw [aF_has l ha hj] at h
    rw [wF_at l hj h.2]
    intro q
    exact h.2 ((dnF_has l hj).2 ⟨h.1, q⟩)
  have hup : (∃ j : Nat, j < 16 ∧ has (blF l) j = true) → nb (nb l.k.up) ≠ 0 := by
    rintro ⟨j, hj, h⟩
    unfold blF blkF at h
    rw [has_setOf _ hj] at h
    unfold blkC at h
    rw [Bool.and_eq_true] at h
    have ht := settle_ok (skip := aF l) hk hs
    have hne : (rF l).n j ≠ -1 := by simpa [bne] using h.1
    by_cases e : (j : Int) = l.k.self
    · have h3 := ht.self.2.2
      rw [← e, Int.toNat_natCast] at h3
      exact absurd h3 hne
    · rcases ht.row j hj e with q | ⟨n, q⟩
      · exact absurd (none_iff.1 q).2.2 hne
      · exact nb_ne hk.up q.n16 q.up
  obtain ⟨q1, q2, q3⟩ := st_inv (s := ⟨aF l, wF l⟩) hup e1 e2 e3 _ (Nat.le_refl _)
  exact ⟨q1, q2, q3⟩
/-- Behind the first round nobody is done, and no least distance is reset. -/
theorem rd_inv {l : LP} (hk : KnOK l.k) (hs : right l.k.self = true) (ha : inI l.act) (hw : ∀ i, inI (l.wait i)) : ∀ n, InvW (rdTo l (nb l.k.up) (n + 1)) ∧ ∀ j : Nat, j < 16 → (rdTo l (nb l.k.up) (n + 1)).least j = leF l j
  | 0 => ⟨invW_round hk hs ha hw, fun j hj => rfl⟩
  | n + 1 => by
    obtain ⟨h1, h2⟩ := rd_inv hk hs ha hw n
    have hkk := (rdTo_k l (nb l.k.up) (n + 1)).1
    rw [rdTo_succ]
    generalize rdTo l (nb l.k.up) (n + 1) = m at h1 h2 hkk
    have e : nb l.k.up = nb m.k.up := by rw [hkk]
    refine ⟨by rw [e]; exact invW_round (by rw [hkk]; exact hk) (by rw [hkk]; exact hs) h1.act h1.wait, fun j hj => ?_⟩
    show leF m j = _
    rw [leF_at m hj fun q => h1.on j hj ((dnF_has m hj).1 q).1 ((dnF_has m hj).1 q).2]
    exact h2 j hj
theorem lowF_le (le d : Nat → Int) {j : Nat} (hj : j < 16) : lowF le d j ≤ le j := by
  unfold lowF fillTo
  rw [if_pos hj]
  show mn (le j) (d j) ≤ le j
  unfold mn
  split <;> omega
theorem anew_inv {l : LP} (hk : KnOK l.k) (hs : right l.k.self = true) (ha : inI l.act) (hw : ∀ i, inI (l.wait i)) : InvW (anewF l) ∧ ∀ j : Nat, j < 16 → l.least j < (anewF l).least j → has l.act j = true ∧ l.wait j = 0 := by
  obtain ⟨h1, h2⟩ := rd_inv hk hs ha hw (anN l (nb l.k.up))
  refine ⟨⟨h1.act, h1.wait, h1.on⟩, fun j hj h => ?_⟩
  have e : (anewF l).least j = lowF (lastF l).least (lastF l).r.d j := rfl
  have h3 := lowF_le (lastF l).least (lastF l).r.d hj
  have h4 : (lastF l).least j = leF l j := h2 j hj
  refine (dnF_has l hj).1 (Classical.byContradiction fun q => ?_)
  rw [leF_at l hj q] at h4
  omega
theorem reply_tb (j n : Int) (w : Nat → Int) (m b : Nat) (hb : b ≠ n.toNat) : tb (replyW j n w m) b = tb (w m) b := by
  unfold replyW
  split
  · by_cases e : m = j.toNat
    · subst e
      rw [setN_eq, tb_withoutN]
      simp [hb]
    · rw [setN_ne _ _ e]
  · rfl
theorem reply_inI (j n : Int) {w : Nat → Int} (hw : ∀ i, inI (w i)) : ∀ i, inI (replyW j n w i) := fun i => by
  unfold replyW
  split
  · exact inI_setN hw (inI_withoutN (hw _) _) i
  · exact hw i
theorem gone_ok (n : Int) {w : Nat → Int} (hw : ∀ i, inI (w i)) : ∀ k, (∀ i, inI (upto (fun k w => replyW k n w) w k i)) ∧ ∀ m b, b ≠ n.toNat → tb (upto (fun k w => replyW k n w) w k m) b = tb (w m) b
  | 0 => ⟨hw, fun _ _ _ => rfl⟩
  | k + 1 => by
    obtain ⟨h1, h2⟩ := gone_ok n hw k
    have es : upto (fun (k : Nat) w => replyW k n w) w (k + 1) = replyW k n (upto (fun (k : Nat) w => replyW k n w) w k) := by simp only [upto]
    rw [es]
    exact ⟨reply_inI _ _ h1, fun m b hb => by rw [reply_tb _ _ _ _ _ hb]; exact h2 m b hb⟩
theorem hr_ok (s n : Int) {w : Nat → Int} (hw : ∀ i, inI (w i)) : ∀ k, (∀ i, inI (hrW s n w k i)) ∧ ∀ m b, b ≠ n.toNat → tb (hrW s n w k m) b = tb (w m) b
  | 0 => ⟨hw, fun _ _ _ => rfl⟩
  | k + 1 => by
    obtain ⟨h1, h2⟩ := hr_ok s n hw k
    have es : hrW s n w (k + 1) = replyW ((listTo s 16).getD k 0) n (hrW s n w k) := by simp only [hrW, upto]
    rw [es]
    exact ⟨reply_inI _ _ h1, fun m b hb => by rw [reply_tb _ _ _ _ _ hb]; exact h2 m b hb⟩
theorem last_one {w n : Int} (hw : inI w) (hn : right n = true) (h0 : ∀ b, b ≠ n.toNat → tb w b = false) (hne : w ≠ 0) : w = withN 0 n := by
  have h1 : tb w n.toNat = true := by
    cases h : tb w n.toNat with
    | true => rfl
    | false =>
      refine absurd (tb_ext hw inI_zero fun i _ => ?_) hne
      rw [tb_zero]
      by_cases e : i = n.toNat
      · rw [e]; exact h
      · exact h0 i e
  refine tb_ext hw (inI_withN inI_zero _) fun i _ => ?_
  rw [tb_withN, tb_zero, Bool.false_or, hn, Bool.true_and]
  by_cases e : i = n.toNat
  · rw [e, h1]; simp
  · rw [h0 i e]; simp [e]
theorem invW_new (m : Int) : InvW (newF m) := ⟨inI_zero, fun _ => inI_zero, fun j _ h => by
  have e : (newF m).act = 0 := rfl
  rw [e, has_zero] at h; cases h⟩
/-- A step of a play: what is kept, and where a least distance rises. -/
theorem step_rise {l : LP} {o : OpS} (h : Inv l) (hw : InvW l) (ho : OpOK o) : InvW (stepF l o) ∧ ∀ j : Nat, j < 16 → l.least j < (stepF l o).least j → has l.act j = true ∧ (o.kd = 1 ∨ o.kd = 3) ∧ l.wait j = withN 0 o.n := by
  obtain ⟨⟨k1, k2, k3, k4, k5⟩, hs, hr⟩ := h
  obtain ⟨a1, a2, a3⟩ := hw
  have hl : InvW l := ⟨a1, a2, a3⟩
  have same : InvW l ∧ ∀ j : Nat, j < 16 → l.least j < l.least j → has l.act j = true ∧ (o.kd = 1 ∨ o.kd = 3) ∧ l.wait j = withN 0 o.n := ⟨hl, fun j _ q => by omega⟩
  unfold stepF
  by_cases c0 : o.kd = 0
  · rw [if_pos c0]
    unfold upF
    split
    · obtain ⟨q1, q2⟩ := anew_inv (l := upG l o.n o.cost) ⟨k1, inI_withN k2 _, inU_setN k3 ho.cost, inU_setT k4 (inU_putN inU_farD _ inU_zero), inI_setT k5 inI_farP⟩ hs a1 a2
      refine ⟨q1, fun j hj hlt => ?_⟩
      obtain ⟨p1, p2⟩ := q2 j hj hlt
      exact absurd p2 (a3 j hj p1)
    · exact same
  rw [if_neg c0]
  by_cases c1 : o.kd = 1
  · rw [if_pos c1]
    unfold downF
    split
    · rename_i hn
      obtain ⟨g1, g2⟩ := gone_ok o.n a2 16
      obtain ⟨q1, q2⟩ := anew_inv (l := dnG l o.n) ⟨k1, inI_withoutN k2 _, inU_setN k3 inU_zero, inU_setT k4 (inU_putN inU_farD _ inU_zero), inI_setT k5 inI_farP⟩ hs a1 g1
      refine ⟨q1, fun j hj hlt => ?_⟩
      obtain ⟨p1, p2⟩ := q2 j hj hlt
      have p2 : upto (fun (k : Nat) w => replyW k o.n w) l.wait 16 j = 0 := p2
      refine ⟨p1, Or.inl c1, last_one (a2 j) (has_right hn) (fun b hb => ?_) (a3 j hj p1)⟩
      rw [← g2 j b hb, p2, tb_zero]
    · exact same
  rw [if_neg c1]
  by_cases c2 : o.kd = 2
  · rw [if_pos c2]
    unfold costF
    split
    · obtain ⟨q1, q2⟩ := anew_inv (l := coG l o.n o.cost) ⟨k1, inI_withN k2 _, inU_setN k3 ho.cost, k4, k5⟩ hs a1 a2
      refine ⟨q1, fun j hj hlt => ?_⟩
      obtain ⟨p1, p2⟩ := q2 j hj hlt
      exact absurd p2 (a3 j hj p1)
    · exact same
  rw [if_neg c2]
  by_cases c3 : o.kd = 3
  · rw [if_pos c3]
    unfold heardF
    split
    · rename_i hn
      obtain ⟨f1, f2⟩ := app_fit (k4 o.n.toNat) (k5 o.n.toNat) ho.its o.its.length (Nat.le_refl _)
      obtain ⟨g1, g2⟩ := hr_ok (destTo o.its 2 o.its.length) o.n a2 (listTo (destTo o.its 2 o.its.length) 16).length
      obtain ⟨q1, q2⟩ := anew_inv (l := hrG l o.n o.its) ⟨k1, k2, k3, inU_setT k4 f1, inI_setT k5 f2⟩ hs a1 g1
      refine ⟨q1, fun j hj hlt => ?_⟩
      obtain ⟨p1, p2⟩ := q2 j hj hlt
      have p2 : hrW (destTo o.its 2 o.its.length) o.n l.wait (listTo (destTo o.its 2 o.its.length) 16).length j = 0 := p2
      refine ⟨p1, Or.inr c3, last_one (a2 j) (has_right hn) (fun b hb => ?_) (a3 j hj p1)⟩
      rw [← g2 j b hb, p2, tb_zero]
    · exact same
  rw [if_neg c3]
  unfold drainF
  split
  · exact ⟨⟨a1, a2, a3⟩, fun j _ q => by
      have q : l.least j < l.least j := q
      omega⟩
  · exact same
end
section
theorem has_ne {s : Int} (hs : inI s) (hb : ∀ i, 16 ≤ i → tb s i = false) (h : s ≠ 0) : ∃ j : Nat, j < 16 ∧ has s j = true := by
  refine Classical.byContradiction fun hn => h (tb_ext hs inI_zero fun i _ => ?_)
  rw [tb_zero]
  by_cases hi : i < 16
  · cases hc : has s (i : Int) with
    | true => exact absurd ⟨i, hi, hc⟩ hn
    | false => rw [← has_nat hs hi]; exact hc
  · exact hb i (by omega)
theorem blF_ne (l : LP) (h : blF l ≠ 0) : ∃ j : Nat, j < 16 ∧ has (blF l) j = true := by
  refine has_ne (inI_setOf _ _) (fun i hi => ?_) h
  unfold blF blkF
  rw [tb_setOf _ _ 16 (Nat.le_refl _)]
  simp; omega
theorem st_has {up bl : Int} {s : PhS} (h1 : inI s.a) {m : Nat} (hm : m < 16) : ∀ i, i ≤ (listTo bl 16).length → inI (stT up bl s i).a ∧ (has (stT up bl s i).a m = true ↔ (has s.a m = true ∨ (m : Int) ∈ (listTo bl 16).take i))
  | 0, _ => ⟨h1, by show has s.a m = true ↔ _; simp⟩
  | i + 1, hi => by
    obtain ⟨n, hn, hh, he⟩ := listTo_get bl (show i < (listTo bl 16).length by omega)
    obtain ⟨q1, q2⟩ := st_has (up := up) (bl := bl) h1 hm i (by omega)
    rw [stT_succ up bl s i he, take_succ_mem he]
    generalize stT up bl s i = t at q1 q2
    unfold st1
    split
    · rename_i hz
      refine ⟨inI_withN q1 _, ?_⟩
      show has (withN t.a n) m = true ↔ _
      rw [has_withN q1, Bool.or_eq_true, q2, right_of hn, Bool.true_and, decide_eq_true_eq, or_assoc]
    · rename_i hz
      refine ⟨q1, ?_⟩
      rw [q2]
      have hz' : has t.a n = true := by simpa using hz
      constructor
      · rintro (q | q)
        · exact Or.inl q
        · exact Or.inr (Or.inl q)
      · rintro (q | q | q)
        · exact Or.inl q
        · exact Or.inr q
        · have : m = n := by omega
          subst this
          exact q2.1 hz'
theorem round_act (l : LP) (up : Int) (ha : inI l.act) {m : Nat} (hm : m < 16) : has (roundF l up).act m = true ↔ (has (aF l) m = true ∨ has (blF l) m = true) := by
  have e1 : inI (aF l) := (endA_has (s := dnF l) ha (show 0 < 16 by omega) _ (Nat.le_refl _)).1
  show has (stF l up).a m = true ↔ _
  unfold stF
  rw [(st_has (s := ⟨aF l, wF l⟩) e1 hm _ (Nat.le_refl _)).2, List.take_length, listTo_mem hm]
theorem bl_row {l : LP} (hk : KnOK l.k) (hs : right l.k.self = true) {j : Nat} (hj : j < 16) (h : has (blF l) j = true) : (j : Int) ≠ l.k.self ∧ has (aF l) j = false := by
  unfold blF blkF at h
  rw [has_setOf _ hj] at h
  unfold blkC at h
  rw [Bool.and_eq_true] at h
  have ht := settle_ok (skip := aF l) hk hs
  have hne : (rF l).n j ≠ -1 := by simpa [bne] using h.1
  by_cases e : (j : Int) = l.k.self
  · have h3 := ht.self.2.2
    rw [← e, Int.toNat_natCast] at h3
    exact absurd h3 hne
  · rcases ht.row j hj e with q | ⟨n, q⟩
    · exact absurd (none_iff.1 q).2.2 hne
    · exact ⟨e, q.skip⟩
def cntA (a : Int) : Nat := ((List.range 16).filter fun m => has a (m : Nat)).length
theorem cntA_le (a : Int) : cntA a ≤ 16 := Nat.le_trans (List.length_filter_le _ _) (by simp)
theorem filter_le {p q : Nat → Bool} : ∀ (L : List Nat), (∀ m, m ∈ L → p m = true → q m = true) → (L.filter p).length ≤ (L.filter q).length
  | [], _ => Nat.le_refl _
  | x :: L, h => by
    have ih := filter_le L fun m hm => h m (by simp [hm])
    cases hp : p x with
    | true => rw [List.filter_cons_of_pos hp, List.filter_cons_of_pos (h x (by simp) hp)]; simpa using ih
    | false =>
      rw [List.filter_cons_of_neg (by rw [hp]; decide)]
      cases hq : q x with
      | true => rw [List.filter_cons_of_pos hq]; simp; omega
      | false => rw [List.filter_cons_of_neg (by rw [hq]; decide)]; exact ih
theorem filter_lt {p q : Nat → Bool} : ∀ (L : List Nat) {j : Nat}, (∀ m, m ∈ L → p m = true → q m = true) → j ∈ L → p j = false → q j = true → (L.filter p).length < (L.filter q).length
  | [], _, _, hj, _, _ => by cases hj
  | x :: L, j, h, hj, h1, h2 => by
    have hL : ∀ m, m ∈ L → p m = true → q m = true := fun m hm => h m (by simp [hm])
    rcases List.mem_cons.1 hj with rfl | hj
    · rw [List.filter_cons_of_neg (by rw [h1]; decide), List.filter_cons_of_pos h2]
      have := filter_le L hL
      simp; omega
    · have ih := filter_lt L hL hj h1 h2
      cases hp : p x with
      | true => rw [List.filter_cons_of_pos hp, List.filter_cons_of_pos (h x (by simp) hp)]; simpa using ih
      | false =>
        rw [List.filter_cons_of_neg (by rw [hp]; decide)]
        cases hq : q x with
        | true => rw [List.filter_cons_of_pos hq]; simp; omega
        | false => rw [List.filter_cons_of_neg (by rw [hq]; decide)]; exact ih
/-- From the second round on the active ones grow while something is blocked. -/
theorem rd_grow {l : LP} (hk : KnOK l.k) (hs : right l.k.self = true) (ha : inI l.act) (hw : ∀ i, inI (l.wait i)) (n : Nat) (hb : blF (rdTo l (nb l.k.up) (n + 1)) ≠ 0) :
    cntA (rdTo l (nb l.k.up) (n + 1)).act < cntA (rdTo l (nb l.k.up) (n + 2)).act := by
  obtain ⟨h1, _⟩ := rd_inv hk hs ha hw n
  have hkk := (rdTo_k l (nb l.k.up) (n + 1)).1
  have es : rdTo l (nb l.k.up) (n + 2) = roundF (rdTo l (nb l.k.up) (n + 1)) (nb l.k.up) := rdTo_succ l _ (n + 1)
  rw [es]
  clear es
  generalize rdTo l (nb l.k.up) (n + 1) = m at h1 hkk hb
  obtain ⟨j, hj, hbj⟩ := blF_ne m hb
  have hbr := bl_row (l := m) (by rw [hkk]; exact hk) (by rw [hkk]; exact hs) hj hbj
  have same : ∀ q : Nat, q < 16 → (has (aF m) q = true ↔ has m.act q = true) := fun q hq => by
    rw [aF_has m h1.act hq]
    exact ⟨fun h => h.1, fun h => ⟨h, fun hd => h1.on q hq h ((dnF_has m hq).1 hd).2⟩⟩
  unfold cntA
  refine filter_lt _ (j := j) (fun q hq h => ?_) (by simpa using hj) ?_ ?_
  · have hq : q < 16 := by simpa using hq
    exact (round_act m _ h1.act hq).2 (Or.inl ((same q hq).2 h))
  · cases h : has m.act (j : Int) with
    | false => rfl
    | true =>
      have := (same j hj).2 h
      rw [hbr.2] at this; cases this
  · exact (round_act m _ h1.act hj).2 (Or.inr hbj)
theorem rd_ends {l : LP} (hk : KnOK l.k) (hs : right l.k.self = true) (ha : inI l.act) (hw : ∀ i, inI (l.wait i)) : blF (rdTo l (nb l.k.up) (anN l (nb l.k.up))) = 0 := by
  obtain ⟨h1, h2, h3⟩ := anN_ok l (nb l.k.up)
  rcases h2 with h2 | h2
  · exact h2
  · exfalso
    rw [h2] at h3
    have key : ∀ n, n ≤ 46 → n ≤ cntA (rdTo l (nb l.k.up) (n + 1)).act := by
      intro n
      induction n with
      | zero => intro _; exact Nat.zero_le _
      | succ n ih =>
        intro hn
        have i1 := ih (by omega)
        have i2 := rd_grow hk hs ha hw n (fun e => h3 (n + 1) (by omega) (Or.inl e))
        have e : n + 1 + 1 = n + 2 := rfl
        rw [e]
        omega
    have := key 46 (Nat.le_refl _)
    have := cntA_le (rdTo l (nb l.k.up) (46 + 1)).act
    omega
theorem rd_self {l : LP} (hk : KnOK l.k) (hs : right l.k.self = true) (ha : inI l.act) (hw : ∀ i, inI (l.wait i)) {s : Nat} (hs16 : s < 16) (hse : l.k.self = s) (h0 : has l.act s = false) : ∀ n, inI (rdTo l (nb l.k.up) n).act ∧ has (rdTo l (nb l.k.up) n).act s = false
  | 0 => ⟨ha, h0⟩
  | n + 1 => by
    obtain ⟨q0, q1⟩ := rd_self hk hs ha hw hs16 hse h0 n
    refine ⟨(rd_inv hk hs ha hw n).1.act, ?_⟩
    have hkk := (rdTo_k l (nb l.k.up) n).1
    rw [rdTo_succ]
    generalize rdTo l (nb l.k.up) n = m at q0 q1 hkk
    cases h : has (roundF m (nb l.k.up)).act (s : Int) with
    | false => rfl
    | true =>
      rcases (round_act m _ q0 hs16).1 h with h | h
      · rw [aF_has m q0 hs16] at h
        rw [q1] at h; cases h.1
      · have := (bl_row (l := m) (by rw [hkk]; exact hk) (by rw [hkk]; exact hs) hs16 h).1
        rw [hkk] at this
        exact absurd hse.symm this
theorem rdD_zero {a : Int} {w : Nat → Int} (h : ∀ j : Nat, j < 16 → has a j = true → w j ≠ 0) : rdD a w = 0 := by
  unfold rdD
  have key : ∀ i, i ≤ (listTo a 16).length → upto (done1 w (listTo a 16)) 0 i = 0 := by
    intro i
    induction i with
    | zero => intro _; rfl
    | succ i ih =>
      intro hi
      obtain ⟨n, hn, hh, he⟩ := listTo_get a (show i < (listTo a 16).length by omega)
      have eg : (listTo a 16).getD i 0 = (n : Int) := by simp [List.getD, he]
      show done1 w (listTo a 16) i (upto (done1 w (listTo a 16)) 0 i) = 0
      rw [ih (by omega)]
      unfold done1
      rw [eg, Int.toNat_natCast, if_neg (h n hn hh)]
  exact key _ (Nat.le_refl _)
theorem listTo_zero : listTo 0 16 = [] := by
  rw [List.eq_nil_iff_forall_not_mem]
  intro x hx
  obtain ⟨m, _, _, h⟩ := mem_listTo.1 hx
  rw [has_zero] at h; cases h
theorem lowF_at (le d : Nat → Int) {j : Nat} (hj : j < 16) : lowF le d j = mn (le j) (d j) := by
  unfold lowF fillTo; rw [if_pos hj]
theorem setOf_zero {c : Nat → Bool} (h : ∀ j, j < 16 → c j = false) : setOf c 16 = 0 := by
  refine tb_ext (inI_setOf _ _) inI_zero fun i _ => ?_
  rw [tb_setOf _ _ 16 (Nat.le_refl _), tb_zero]
  by_cases hi : i < 16
  · simp [h i hi]
  · simp [hi]
/-- Made anew, a node is sound. -/
theorem anew_snd {l : LP} (hk : KnOK l.k) (hs : right l.k.self = true) (ha : inI l.act) (hw : ∀ i, inI (l.wait i)) (h0 : has l.act l.k.self = false) : sndB (anewF l) = true ∧ has (anewF l).act (anewF l).k.self = false := by
  obtain ⟨s, hs16, hse⟩ := right_eq hs
  rw [hse] at h0
  have hB := rd_ends hk hs ha hw
  have hI := (rd_inv hk hs ha hw (anN l (nb l.k.up))).1
  have hS := rd_self hk hs ha hw hs16 hse h0 (anN l (nb l.k.up) + 1)
  have hS0 := rd_self hk hs ha hw hs16 hse h0 (anN l (nb l.k.up))
  have hkk := (rdTo_k l (nb l.k.up) (anN l (nb l.k.up))).1
  have eL : lastF l = roundF (rdTo l (nb l.k.up) (anN l (nb l.k.up))) (nb l.k.up) := rfl
  have eA : anewF l = finF l (lastF l) := rfl
  rw [rdTo_succ] at hI hS
  rw [eA, eL]
  generalize rdTo l (nb l.k.up) (anN l (nb l.k.up)) = m at hB hI hS hS0 hkk
  have hkm : KnOK m.k := by rw [hkk]; exact hk
  have hsm : right m.k.self = true := by rw [hkk]; exact hs
  have hsem : m.k.self = s := by rw [hkk]; exact hse
  have ht := settle_ok (skip := aF m) hkm hsm
  have ea : (roundF m (nb l.k.up)).act = aF m := by
    show (stF m (nb l.k.up)).a = _
    unfold stF; rw [hB, listTo_zero]; rfl
  have hact0 : has (aF m) s = false := by rw [← ea]; exact hS.2
  refine ⟨?_, ?_⟩
  · unfold sndB
    have e1 : (finF l (roundF m (nb l.k.up))).r = rF m := rfl
    have e2 : (finF l (roundF m (nb l.k.up))).k = m.k := rfl
    have e3 : (finF l (roundF m (nb l.k.up))).least = lowF (leF m) (rF m).d := rfl
    have e4 : (finF l (roundF m (nb l.k.up))).act = (roundF m (nb l.k.up)).act := rfl
    have e5 : (finF l (roundF m (nb l.k.up))).wait = (roundF m (nb l.k.up)).wait := rfl
    have p1 : soundF (cut (rF m).d) (cut (rF m).p) m.k.self = true := by
      show soundF (cut (settleF m.k (aF m)).d) (cut (settleF m.k (aF m)).p) m.k.self = true
      rw [cut_id fun i hi => (ht.hi i hi).1, cut_id fun i hi => (ht.hi i hi).2.1]
      exact tab_sound hkm hsm ht
    have p2 : blkF m.k (rF m).n (lowF (leF m) (rF m).d) = 0 := by
      refine setOf_zero fun j hj => ?_
      have hb : has (blF m) j = false := by rw [hB, has_zero]
      unfold blF blkF at hb
      rw [has_setOf _ hj] at hb
      unfold blkC at hb ⊢
      cases hn : ((rF m).n j != -1) with
      | false => rfl
      | true =>
        rw [hn, Bool.true_and] at hb
        rw [Bool.true_and]
        have hsafe : safeF m.k (leF m) ((rF m).n j) j = true := by simpa using hb
        rw [safeF_eq, Bool.and_eq_true, Bool.and_eq_true] at hsafe
        have hne : (rF m).n j ≠ -1 := by simpa [bne] using hn
        by_cases e : (j : Int) = m.k.self
        · have h3 := ht.self.2.2
          rw [← e, Int.toNat_natCast] at h3
          exact absurd h3 hne
        · rcases ht.row j hj e with q | ⟨n, q⟩
          · exact absurd (none_iff.1 q).2.2 hne
          · have pre := pre_ok q.pre
            obtain ⟨d1, d2⟩ := alD_eq hkm pre
            have c1 := pre.c1
            have hrn : (rF m).n j = n := q.rn
            have hrd : (rF m).d j = alD m.k n j := q.rd
            have h3 : tol m.k ((rF m).n j) j < lowF (leF m) (rF m).d (j : Int).toNat := by
              have h4 := hsafe.2.2
              simp only [decide_eq_true_eq, Int.toNat_natCast] at h4 ⊢
              rw [lowF_at _ _ hj]
              unfold mn
              split
              · rw [hrn, hrd, d1]; omega
              · exact h4
            rw [safeF_eq, hsafe.1, hsafe.2.1, decide_eq_true h3]; rfl
    have p3 : ((List.range 16).any (badR (finF l (roundF m (nb l.k.up))))) = false := by
      rw [List.any_eq_false]
      intro j hj
      have hj : j < 16 := by simpa using hj
      unfold badR
      rw [e1, e3, e4, ea]
      have g1 : ¬ (rF m).d j < lowF (leF m) (rF m).d j := by
        rw [lowF_at _ _ hj]; unfold mn; split <;> omega
      rw [decide_eq_false g1, Bool.false_or]
      cases hA : has (aF m) (j : Int) with
      | false => simp
      | true =>
        have hjs : (j : Int) ≠ m.k.self := fun e => by
          rw [hsem] at e
          have : j = s := by omega
          rw [this, hact0] at hA; cases hA
        rcases ht.row j hj hjs with q | ⟨n, q⟩
        · have : (rF m).d j = 4294967295 := (none_iff.1 q).1
          rw [this]; simp
        · rw [q.skip] at hA; cases hA
    have p4 : rdD (finF l (roundF m (nb l.k.up))).act (finF l (roundF m (nb l.k.up))).wait = 0 := rdD_zero hI.on
    rw [p4, p3, e1, e2, e3, p1, p2]; rfl
  · show has (roundF m (nb l.k.up)).act m.k.self = false
    rw [hsem]; exact hS.2
end
section
open Go.ChangeShapes Go.WideShapes Go.ChangeAt
section
variable {H : Type} {enc : TypeId × Value → H} {P : Program} {w : World} {base : Nat} {spare : Nat → Bool} {held : Bool}
/-- A row that came in, element by element. -/
theorem read_row {t e : TypeId} {sh : Sh} {n : Nat} {v : Value} {y : DataW H × List MemPlace} {Q : D → Prop} (ht : P.underlying t = some (.slice e)) (hce : P.cellsOf e = sh.size) (hpos : 0 < sh.size)
    (hmk : ∀ cs, (∃ y n, DataW.trod enc P w base spare held n e cs = some y) → ∃ x : D, x.WF ∧ x.shape = sh ∧ x.flat = cs ∧ Q x)
    (hd : DataW.trod enc P w base spare held n t [v] = some y) (hv : ∀ a cap, v = .slice (some a) 0 cap → a.spot = none ∧ ∃ row cells, w.shape? a.block = some (row, cells)) :
    ∃ es : List D, RS w w.heap.size sh es v ∧ (∀ x, x ∈ es → Q x) ∧ es.length ≤ maxLen := by
  rcases DataW.trod_slice ht hd with ⟨h, _⟩ | ⟨a, len, cap, elems, rest, m, _, h, _, hb, hl, hm, hlen, hel, _⟩
  · simp at h; subst h
    exact ⟨[], ⟨fun x hx => by simp at hx, Or.inl ⟨rfl, rfl⟩⟩, fun x hx => by simp at hx, Nat.zero_le _⟩
  · simp at h; subst h
    have each : ∀ i, i < len → ∃ cs, w.cells? base (a.add (i * sh.size)) sh.size = some cs ∧ ∃ x : D, x.WF ∧ x.shape = sh ∧ x.flat = cs ∧ Q x := by
      intro i hi
      have p := hel i hi
      obtain ⟨z, hz⟩ : ∃ z, elems[i]? = some z := ⟨elems[i], by simp [hlen, hi]⟩
      rw [hz, hce] at p
      simp only [Option.bind_eq_some_iff] at p
      obtain ⟨cs, h1, h2⟩ := p
      exact ⟨cs, h1, hmk cs ⟨_, _, h2⟩⟩
    have hh : a.spot = none ∧ ∃ arr T fr, w.heap[a.block]? = some (.cells arr T fr) := by
      by_cases h0 : 0 < len
      · obtain ⟨cs, h1, _⟩ := each 0 h0
        have q := World.cells?_some h1
        have q3 := q.2.2 0 hpos
        rw [List.getElem?_eq_getElem (by omega)] at q3
        have e0 : (a.add (0 * sh.size)).add 0 = a := by simp [Addr.add]
        rw [e0] at q3
        unfold World.cell? at q3
        split at q3
        · rename_i c T fr he
          split at q3
          · cases q3
          · rename_i hs; exact ⟨by simpa using hs, _, _, _, he⟩
        · cases q3
      · obtain rfl : len = 0 := by omega
        obtain ⟨h1, row, cells, h2⟩ := hv a cap rfl
        refine ⟨h1, ?_⟩
        unfold World.shape? at h2
        split at h2
        · rename_i c T fr he; exact ⟨_, _, _, he⟩
        · cases h2
    obtain ⟨g, o, sp⟩ := a
    obtain ⟨hsp, arr, T, fr, hcs⟩ := hh
    obtain rfl : sp = none := hsp
    simp only [add_plain] at each
    have hcs : w.heap[g]? = some (.cells arr T fr) := hcs
    have hlt : g < w.heap.size := (Array.getElem?_eq_some_iff.1 hcs).1
    obtain ⟨f, hf⟩ : ∃ f : Nat → D, ∀ i, i < len → ∃ cs, w.cells? base ⟨g, o + i * sh.size, none⟩ sh.size = some cs ∧ (f i).WF ∧ (f i).shape = sh ∧ (f i).flat = cs ∧ Q (f i) := by
      refine ⟨fun i => if h : i < len then Classical.choose (Classical.choose_spec (each i h)).2 else .nil, fun i hi => ?_⟩
      simp only [dif_pos hi]
      exact ⟨Classical.choose (each i hi), (Classical.choose_spec (each i hi)).1, Classical.choose_spec (Classical.choose_spec (each i hi)).2⟩
    have hgood : Good sh ((List.range len).map f) := by
      intro x hx
      obtain ⟨i, hi, rfl⟩ := List.mem_map.1 hx
      obtain ⟨cs, _, h2, h3, _⟩ := hf i (by simpa using hi)
      exact ⟨h2, h3⟩
    refine ⟨(List.range len).map f, ⟨hgood, Or.inr ⟨g, o, cap, arr, T, fr, hlt, by simp; omega, by simp, hcs, fun j v hj => ?_⟩⟩, fun x hx => ?_, by simp; omega⟩
    · obtain ⟨i, x, k, h1, h2, rfl, h4⟩ := flats_get hgood j v hj
      rw [List.getElem?_map, Option.map_eq_some_iff] at h1
      obtain ⟨i', h5, rfl⟩ := h1
      have hi : i < len := by have := (List.getElem?_eq_some_iff.1 h5).1; simpa using this
      obtain rfl : i = i' := by rw [List.getElem?_eq_getElem (by simpa using hi)] at h5; simpa using h5
      obtain ⟨cs, q1, _, _, q4, _⟩ := hf i hi
      rw [q4] at h4
      have q3 := (World.cells?_some q1).2.2 k h2
      rw [h4] at q3
      simp only [World.cell?, add_plain, hcs] at q3
      rw [← Nat.add_assoc]
      simpa using q3
    · obtain ⟨i, hi, rfl⟩ := List.mem_map.1 hx
      obtain ⟨cs, _, _, _, _, h5⟩ := hf i (by simpa using hi)
      exact h5
end
theorem itms_of : ∀ {es : List D}, Good shI es → (∀ x, x ∈ es → x.fits) → ∃ its : List Itm, es = itms its ∧ ∀ x, x ∈ its → ItmOK x
  | [], _, _ => ⟨[], rfl, fun x hx => by cases hx⟩
  | e :: es, hg, hf => by
    obtain ⟨its, rfl, h2⟩ := itms_of (es := es) (fun x hx => hg x (by simp [hx])) (fun x hx => hf x (by simp [hx]))
    obtain ⟨w0, s0⟩ := hg e (by simp)
    have f0 := hf e (by simp)
    obtain ⟨e1, ⟨w1, s1, f1⟩, w2, s2, f2⟩ := cons_open s0 w0 f0
    obtain ⟨e2, ⟨w3, s3, f3⟩, w4, s4, f4⟩ := cons_open s2 w2 f2
    obtain ⟨e3, ⟨w5, s5, f5⟩, w6, s6, f6⟩ := cons_open s4 w4 f4
    obtain ⟨e4, ⟨w7, s7, f7⟩, w8, s8, f8⟩ := cons_open s6 w6 f6
    obtain ⟨q1, r1⟩ := cell_i s1 f1
    obtain ⟨q2, r2⟩ := cell_i s3 f3
    obtain ⟨q3, r3⟩ := cell_u s5 f5
    obtain ⟨q4, r4⟩ := cell_i s7 f7
    refine ⟨⟨intOf (hdD e), intOf (hdD (tlD e)), intOf (hdD (tlD (tlD e))), intOf (hdD (tlD (tlD (tlD e))))⟩ :: its, ?_, fun x hx => ?_⟩
    · show e :: itms its = itD _ _ _ _ :: itms its
      congr 1
      rw [e1, e2, e3, e4, of_nil s8]
      show D.cons (hdD e) (.cons (hdD (tlD e)) (.cons (hdD (tlD (tlD e))) (.cons (hdD (tlD (tlD (tlD e)))) .nil))) = .cons (dI _) (.cons (dI _) (.cons (dU _) (.cons (dI _) .nil)))
      exact congr (congrArg D.cons q1) (congr (congrArg D.cons q2) (congr (congrArg D.cons q3) (congr (congrArg D.cons q4) rfl)))
    · rcases List.mem_cons.1 hx with rfl | hx
      · exact ⟨r3, r4⟩
      · exact h2 x hx
/-- What is known of an operation that came in. -/
def OpIn (w : World) (x : D) : Prop := ∃ o : OpS, x = opD o ∧ OpOK o ∧ (o.its ≠ [] → RS w w.heap.size shI (itms o.its) (.slice o.ad o.its.length o.cp))
section
variable {H : Type} {enc : TypeId × Value → H} {w : World} {base : Nat} {spare : Nat → Bool} {held : Bool}
theorem open_op (cs : List Value) (h : ∃ y n, DataW.trod enc Try.prog w base spare held n 104 cs = some y) : ∃ x : D, x.WF ∧ x.shape = shO ∧ x.flat = cs ∧ OpIn w x := by
  obtain ⟨y, n, hy⟩ := h
  obtain ⟨xs, q, rfl, rfl, hl, hx, hi⟩ := DataW.trod_struct Try.underlying104 hy
  have h4 : Try.prog.cellsOf 104 = 4 := by kernel_rfl
  rw [h4] at hl
  obtain ⟨c0, c1, c2, c3, rfl⟩ : ∃ a b c d, cs = [a, b, c, d] := by
    match cs, hl with
    | [a, b, c, d], _ => exact ⟨a, b, c, d, rfl⟩
  have n0 : Try.prog.cellsOf 3 = 1 := by kernel_rfl
  have n2 : Try.prog.cellsOf 22 = 1 := by kernel_rfl
  have n3 : Try.prog.cellsOf 64 = 1 := by kernel_rfl
  have get : ∀ i, i < xs.length → ∃ z, xs[i]? = some z := fun i hi => ⟨xs[i], List.getElem?_eq_getElem hi⟩
  have hx4 : xs.length = 4 := hx
  have p0 := hi 0 _ rfl
  have p1 := hi 1 _ rfl
  have p2 := hi 2 _ rfl
  have p3 := hi 3 _ rfl
  obtain ⟨z0, g0⟩ := get 0 (by omega)
  obtain ⟨z1, g1⟩ := get 1 (by omega)
  obtain ⟨z2, g2⟩ := get 2 (by omega)
  obtain ⟨z3, g3⟩ := get 3 (by omega)
  rw [g0] at p0
  rw [g1] at p1
  rw [g2] at p2
  rw [g3] at p3
  have p0 : DataW.trod enc Try.prog w base spare held q 3 (([c0, c1, c2, c3].drop 0).take (Try.prog.cellsOf 3)) = some z0 := p0
  have p1 : DataW.trod enc Try.prog w base spare held q 3 (([c0, c1, c2, c3].drop 1).take (Try.prog.cellsOf 3)) = some z1 := p1
  have p2 : DataW.trod enc Try.prog w base spare held q 22 (([c0, c1, c2, c3].drop 2).take (Try.prog.cellsOf 22)) = some z2 := p2
  have p3 : DataW.trod enc Try.prog w base spare held q 64 (([c0, c1, c2, c3].drop 3).take (Try.prog.cellsOf 64)) = some z3 := p3
  rw [n0] at p0 p1
  rw [n2] at p2
  rw [n3] at p3
  simp only [List.drop_zero, List.take_succ_cons, List.take_zero, List.drop_succ_cons] at p0 p1 p2 p3
  obtain ⟨a0, e0, _, _⟩ := DataW.trod_int Try.underlying3 p0
  obtain ⟨a1, e1, _, _⟩ := DataW.trod_int Try.underlying3 p1
  obtain ⟨a2, e2, _, hw2⟩ := DataW.trod_int Try.underlying22 p2
  simp only [List.cons.injEq, and_true] at e0 e1 e2
  subst e0 e1 e2
  have hc : inU a2 := by
    exact inU_of hw2
  have fin : ∀ (its : List Itm) (ad : Option Addr) (cp : Nat), c3 = .slice ad its.length cp → (∀ x, x ∈ its → ItmOK x) → (its ≠ [] → RS w w.heap.size shI (itms its) (.slice ad its.length cp)) →
      ∃ x : D, x.WF ∧ x.shape = shO ∧ x.flat = [.int .i64 a0, .int .i64 a1, .int .u32 a2, c3] ∧ OpIn w x := fun its ad cp hv hok hrs => by
    subst hv
    exact ⟨opD ⟨a0, a1, a2, its, ad, cp⟩, ⟨rfl, rfl, rfl, rfl, trivial⟩, rfl, rfl, ⟨a0, a1, a2, its, ad, cp⟩, rfl, ⟨hc, hok⟩, hrs⟩
  rcases DataW.trod_slice Try.underlying64 p3 with ⟨h, _⟩ | ⟨a, len, cap, elems, rest, m, _, h, _⟩
  · simp [n3] at h
    exact fin [] none 0 h (fun x hx => by cases hx) (fun h => absurd rfl h)
  · simp [n3] at h
    by_cases h0 : len = 0
    · subst h0
      exact fin [] (some a) cap h (fun x hx => by cases hx) (fun h => absurd rfl h)
    · subst h
      obtain ⟨es, hrs, hfit, _⟩ := read_row (sh := shI) (Q := fun x => x.fits) Try.underlying64 (by kernel_rfl) (by decide) (fun cs hcs => by
        have hok := opTy_ok 8 68 shI cs (by kernel_rfl) hcs
        exact ⟨mkD shI cs, (mkD_ok _ _).1, (mkD_ok _ _).2, mkD_flat _ _ hok, mkD_fits _ _ hok⟩) p3 (fun a' cap' he => by
        simp at he; exact absurd he.2.1 h0)
      obtain ⟨its, rfl, hok⟩ := itms_of hrs.1 hfit
      have hlen : its.length = len := by
        rcases hrs.2 with ⟨_, hu⟩ | ⟨g, o, cap', cs, T, fr, _, _, hu, _⟩
        · simp at hu
        · simp at hu; rw [itms_length] at hu; exact hu.2.1.symm
      subst hlen
      exact fin its (some a) cap rfl hok (fun _ => hrs)
theorem open_ops {r : Reach} {b0 : Nat} {v : Value} {dd : DataW H} {ps : List MemPlace} (hval : Value.okWide Try.prog w r b0 86 v) (hd : DataW.Trod enc Try.prog w base spare held 86 v dd ps) :
    ∃ ops : List OpS, RS w w.heap.size shO (ops.map opD) v ∧ ops.length ≤ maxLen ∧ ∀ o, o ∈ ops → OpOK o ∧ (o.its ≠ [] → RS w w.heap.size shI (itms o.its) (.slice o.ad o.its.length o.cp)) := by
  obtain ⟨a, len, cap, rfl⟩ := Go.WideShapes.okWide_slice Try.underlying86 hval
  obtain ⟨n, hn⟩ := hd
  obtain ⟨es, hrs, hq, hl⟩ := read_row (sh := shO) (Q := OpIn w) Try.underlying86 (by kernel_rfl) (by decide) open_op hn (fun a' cap' he => by
    simp at he
    obtain ⟨rfl, rfl, rfl⟩ := he
    simp only [Value.okWide, Try.underlying86, Cell.okWide, Cell.ok, World.has] at hval
    obtain ⟨_, _, _, h1, row, cells, h2, _⟩ := hval
    exact ⟨h1, row, cells, h2⟩)
  have key : ∀ es : List D, (∀ x, x ∈ es → OpIn w x) → ∃ ops : List OpS, es = ops.map opD ∧ ∀ o, o ∈ ops → OpOK o ∧ (o.its ≠ [] → RS w w.heap.size shI (itms o.its) (.slice o.ad o.its.length o.cp)) := by
    intro es
    induction es with
    | nil => intro _; exact ⟨[], rfl, fun o ho => by cases ho⟩
    | cons x es ih =>
      intro h
      obtain ⟨ops, rfl, h2⟩ := ih fun y hy => h y (by simp [hy])
      obtain ⟨o, rfl, h3, h4⟩ := h x (by simp)
      exact ⟨o :: ops, rfl, fun o' ho => by
        rcases List.mem_cons.1 ho with rfl | ho
        · exact ⟨h3, h4⟩
        · exact h2 o' ho⟩
  obtain ⟨ops, rfl, h2⟩ := key es hq
  exact ⟨ops, hrs, by simpa using hl, h2⟩
end
end
section
def remN (j : Int) : Int := IntKind.i64.wrap ((IntKind.u64.wrap j).tmod 16)
noncomputable def plTo (l : LP) (ops : List OpS) (k : Nat) : LP := upto (fun i l => stepF l (ops.getD i op0)) l k
theorem plTo_succ (l : LP) (ops : List OpS) (k : Nat) : plTo l ops (k + 1) = stepF (plTo l ops k) (ops.getD k op0) := by simp only [plTo, upto]
theorem lp_eqv (l : LP) : (lpD l).eqv (lpD l) = true := by
  simp [D.eqv, veq]
set_option maxHeartbeats 4000000 in
theorem lpaSound_ev {orc : Value → Option (List Itm)} (ops : List OpS) (hops : ops.length ≤ maxLen) (ho : ∀ k, k < ops.length → (ops.getD k op0).its ≠ [] → orc (.slice (ops.getD k op0).ad (ops.getD k op0).its.length (ops.getD k op0).cp) = some (ops.getD k op0).its)
    (n m : Int) (hm : remN n = m)
    (h : longB ops = false → ∀ k, k < ops.length → ∀ l : LP, plTo (newF m) ops k = l → sndB (stepF l (ops.getD k op0)) = true ∧ (stepE l (ops.getD k op0) ≠ 0 → stepF l (ops.getD k op0) = l)) :
    evF Try.prog env (xo orc) (30) 13 [.d (.s (.int .i64 (n))), .sl .ro shO (ops.map opD)] = some (.d (.s (.bool (true)))) := by
  rw [evF_eq Try.func13 (show Try.f13.body = some _ from rfl) rfl rfl (by show 2 ≤ 47; decide)]
  have hm' : IntKind.i64.wrap ((IntKind.u64.wrap n).tmod 16) = m := hm
  have h16 : (16 : Int) ≠ 0 := by decide
  have eL : evF Try.prog env (xo orc) (29) 75 [.sl .ro shO (ops.map opD)] = some (.d (.s (.bool (longB ops)))) := long31_ev 28 ops hops
  have hle : (ops.map opD).length = ops.length := List.length_map ..
  rcases Bool.eq_false_or_eq_true (longB ops) with hb | hb
  · rw [hb] at eL
    simp (decide := true) only [eL, awake31_ev, Try.f13, rid, kl13_5, ↓sBp, sBq, List.all_cons, List.all_nil, List.map_cons, List.map_nil, D.shape, Sh.sub, Sh.size, List.getElem?_cons_zero, List.getElem?_cons_succ, Option.bind_some, Option.bind_none, Option.getD_some, Option.getD_none, V.keysIn, V.kill, V.has, decide_eq_true_eq, beq_iff_eq, bne_iff_ne, ne_eq, Bool.not_eq_true', Bool.and_true, Bool.and_self, Bool.true_and, if_true, if_false, reduceIte, Bool.false_eq_true, decide_true, decide_false, beq_self_eq_true, Bool.not_true, Bool.not_false, true_and, and_true, and_self, List.append_assoc, List.nil_append, List.cons_append, Int.toNat_natCast, ck, Int.cast_ofNat_Int, Int.reduceToNat, bne_self_eq_false, Bool.or_false, Bool.false_or, Bool.false_and, Bool.and_false, Bool.or_true, Bool.true_or]
  rw [hb] at eL
  have eN : evF Try.prog env (xo orc) (29) 61 [.d (.s (.int .i64 (m)))] = some (.d (lpD (newF m))) := up_o (lpNew_ev 25 m)
  have h := h hb
  have hlens := (longB_facts hb).2
  have hlen40 := (longB_facts hb).1
  simp (decide := true) only [eL, hm', h16, eN, hle, Try.f13, rid, kl13_5, ↓sBp, sBq, List.all_cons, List.all_nil, List.map_cons, List.map_nil, D.shape, Sh.sub, Sh.size, List.getElem?_cons_zero, List.getElem?_cons_succ, Option.bind_some, Option.bind_none, Option.getD_some, Option.getD_none, V.keysIn, V.kill, V.has, decide_eq_true_eq, beq_iff_eq, bne_iff_ne, ne_eq, Bool.not_eq_true', Bool.and_true, Bool.and_self, Bool.true_and, if_true, if_false, reduceIte, Bool.false_eq_true, decide_true, decide_false, beq_self_eq_true, Bool.not_true, Bool.not_false, true_and, and_true, and_self, List.append_assoc, List.nil_append, List.cons_append, Int.toNat_natCast, ck, Int.cast_ofNat_Int, Int.reduceToNat, bne_self_eq_false, Bool.or_false, Bool.false_or, Bool.false_and, Bool.and_false, Bool.or_true, Bool.true_or]
  rw [iter_run (S := fun k => ⟨tab .junk [(5, .ptr 5 (shL) [] (shL)), (19, .sl .ro shO (ops.map opD)), (20, .d (.s (.int .i64 (ops.length)))), (21, .d (.s (.int .i64 (k))))], tab none [(5, some (.box (lpD (plTo (newF m) ops k))))]⟩) (n := ops.length) (h0 := ?h0) (hn := ?hn) (step := ?step)]
  case h0 => rfl
  case hn => exact lt_loopFuel (by omega)
  case step =>
    intro k hk
    have hk1 : (k : Int) < (ops.length : Int) := by omega
    have hk0 : (0 : Int) ≤ k := by omega
    have hkw := wrap_succ k (by omega)
    have hg : (ops.map opD)[k]? = some (opD (ops.getD k op0)) := by simp [List.getD, List.getElem?_eq_getElem hk]
    have es := plTo_succ (newF m) ops k
    have hoo := ho k hk
    have hll := hlens k hk
    have hh := h k hk _ rfl
    generalize ops.getD k op0 = o at hg es hoo hll hh
    generalize plTo (newF m) ops k = l at es hh
    have eS := step_ev (orc := orc) 19 l o hoo (by omega)
    obtain ⟨h1, h2⟩ := hh
    have eQ : evF Try.prog env (xo orc) (29) 77 [.d (lpD (stepF l o))] = some (.d (.s (.bool (true)))) := by
      have := up_o (orc := orc) (lpSound_ev 22 (stepF l o))
      rw [h1] at this
      exact this
    rcases Bool.eq_false_or_eq_true (stepE l o != 0) with he | he
    · have e2 := h2 (by simpa using he)
      rw [e2] at eS eQ es
      have eq := lp_eqv l
      simp (decide := true) only [hk1, hk0, hkw, hg, eS, eQ, he, eq, es, Try.f13, rid, kl13_5, ↓sBp, sBq, List.all_cons, List.all_nil, List.map_cons, List.map_nil, D.shape, Sh.sub, Sh.size, List.getElem?_cons_zero, List.getElem?_cons_succ, Option.bind_some, Option.bind_none, Option.getD_some, Option.getD_none, V.keysIn, V.kill, V.has, decide_eq_true_eq, beq_iff_eq, bne_iff_ne, ne_eq, Bool.not_eq_true', Bool.and_true, Bool.and_self, Bool.true_and, if_true, if_false, reduceIte, Bool.false_eq_true, decide_true, decide_false, beq_self_eq_true, Bool.not_true, Bool.not_false, true_and, and_true, and_self, List.append_assoc, List.nil_append, List.cons_append, Int.toNat_natCast, ck, Int.cast_ofNat_Int, Int.reduceToNat, bne_self_eq_false, Bool.or_false, Bool.false_or, Bool.false_and, Bool.and_false, Bool.or_true, Bool.true_or]
    · generalize stepF l o = l' at es eS eQ
      simp (decide := true) only [hk1, hk0, hkw, hg, eS, eQ, he, es, Try.f13, rid, kl13_5, ↓sBp, sBq, List.all_cons, List.all_nil, List.map_cons, List.map_nil, D.shape, Sh.sub, Sh.size, List.getElem?_cons_zero, List.getElem?_cons_succ, Option.bind_some, Option.bind_none, Option.getD_some, Option.getD_none, V.keysIn, V.kill, V.has, decide_eq_true_eq, beq_iff_eq, bne_iff_ne, ne_eq, Bool.not_eq_true', Bool.and_true, Bool.and_self, Bool.true_and, if_true, if_false, reduceIte, Bool.false_eq_true, decide_true, decide_false, beq_self_eq_true, Bool.not_true, Bool.not_false, true_and, and_true, and_self, List.append_assoc, List.nil_append, List.cons_append, Int.toNat_natCast, ck, Int.cast_ofNat_Int, Int.reduceToNat, bne_self_eq_false, Bool.or_false, Bool.false_or, Bool.false_and, Bool.and_false, Bool.or_true, Bool.true_or]
  simp (decide := true) only [Int.lt_irrefl, awake31_ev, Try.f13, rid, kl13_5, ↓sBp, sBq, List.all_cons, List.all_nil, List.map_cons, List.map_nil, D.shape, Sh.sub, Sh.size, List.getElem?_cons_zero, List.getElem?_cons_succ, Option.bind_some, Option.bind_none, Option.getD_some, Option.getD_none, V.keysIn, V.kill, V.has, decide_eq_true_eq, beq_iff_eq, bne_iff_ne, ne_eq, Bool.not_eq_true', Bool.and_true, Bool.and_self, Bool.true_and, if_true, if_false, reduceIte, Bool.false_eq_true, decide_true, decide_false, beq_self_eq_true, Bool.not_true, Bool.not_false, true_and, and_true, and_self, List.append_assoc, List.nil_append, List.cons_append, Int.toNat_natCast, ck, Int.cast_ofNat_Int, Int.reduceToNat, bne_self_eq_false, Bool.or_false, Bool.false_or, Bool.false_and, Bool.and_false, Bool.or_true, Bool.true_or]
end
theorem rem16 {j : Int} (hj : inI j) : ∃ m : Nat, m < 16 ∧ IntKind.i64.wrap ((IntKind.u64.wrap j).tmod 16) = (m : Int) := by
  have e : IntKind.u64.wrap j = j % 18446744073709551616 := rfl
  rw [e]
  have h0 : 0 ≤ j % 18446744073709551616 := by omega
  rw [Int.tmod_eq_emod_of_nonneg h0]
  refine ⟨((j % 18446744073709551616) % 16).toNat, by omega, ?_⟩
  rw [IntWalk.i64_in _ (by omega)]; omega
/-- What is read through a slice in a world. -/
def Reads (W : World) (v : Value) (its : List Itm) : Prop := its ≠ [] ∧ RS W W.heap.size shI (itms its) v ∧ ∀ x, x ∈ its → ItmOK x
noncomputable def orcW (W : World) (v : Value) : Option (List Itm) :=
  haveI := Classical.propDecidable (∃ its, Reads W v its)
  if h : ∃ its, Reads W v its then some (Classical.choose h) else none
theorem orcW_yes {W : World} {v : Value} (h : ∃ its, Reads W v its) : ∃ its, orcW W v = some its ∧ Reads W v its := by
  refine ⟨Classical.choose h, ?_, Classical.choose_spec h⟩
  unfold orcW
  exact dif_pos h
theorem orcW_J (W : World) : JW (orcW W) W.heap.size W := by
  intro v its h
  unfold orcW at h
  split at h
  · rename_i q
    cases h
    exact (Classical.choose_spec q).2.1
  · cases h
theorem pick (W : World) : ∀ (ops : List OpS), (∀ o, o ∈ ops → OpOK o ∧ (o.its ≠ [] → RS W W.heap.size shI (itms o.its) (.slice o.ad o.its.length o.cp))) →
    ∃ ops2 : List OpS, ops2.map opD = ops.map opD ∧ ∀ o, o ∈ ops2 → OpOK o ∧ (o.its ≠ [] → orcW W (.slice o.ad o.its.length o.cp) = some o.its)
  | [], _ => ⟨[], rfl, fun o ho => by cases ho⟩
  | o :: ops, h => by
    obtain ⟨ops2, e2, h2⟩ := pick W ops fun o ho => h o (by simp [ho])
    obtain ⟨h3, h4⟩ := h o (by simp)
    obtain ⟨kd, n, cost, its, ad, cp⟩ := o
    simp only at h4
    by_cases hz : its = []
    · refine ⟨⟨kd, n, cost, its, ad, cp⟩ :: ops2, by rw [List.map_cons, List.map_cons, e2], fun o ho => ?_⟩
      rcases List.mem_cons.1 ho with rfl | ho
      · exact ⟨h3, fun q => absurd hz q⟩
      · exact h2 o ho
    · obtain ⟨its', e3, e4, e5, e6⟩ := orcW_yes (W := W) (v := .slice ad its.length cp) ⟨its, hz, h4 hz, h3.its⟩
      have hl : its'.length = its.length := by
        rcases e5.2 with ⟨q, _⟩ | ⟨g, o, cap, cs, T, fr, _, _, hu, _⟩
        · have : its' = [] := by
            cases its' with
            | nil => rfl
            | cons x r => cases q
          exact absurd this e4
        · simp only [Value.slice.injEq] at hu
          rw [itms_length] at hu
          exact hu.2.1.symm
      refine ⟨⟨kd, n, cost, its', ad, cp⟩ :: ops2, ?_, fun o ho => ?_⟩
      · rw [List.map_cons, List.map_cons, e2]
        show opD ⟨kd, n, cost, its', ad, cp⟩ :: _ = opD ⟨kd, n, cost, its, ad, cp⟩ :: _
        unfold opD
        simp only [hl]
      · rcases List.mem_cons.1 ho with rfl | ho
        · exact ⟨⟨h3.cost, e6⟩, fun _ => by simp only [hl]; exact e3⟩
        · exact h2 o ho
theorem snd_new {m : Nat} (hm : m < 16) : sndB (newF m) = true ∧ has (newF m).act (newF m).k.self = false := by
  have hk := (inv_new hm).k
  have hr : right ((newF (m : Int)).k.self) = true := right_of hm
  have fD : ∀ i, i < 16 → i ≠ m → (newF (m : Int)).r.d i = 4294967295 := fun i hi hne => by
    show putN farD (m : Int) 0 i = _
    unfold putN
    rw [if_pos (right_of hm), Int.toNat_natCast, setN_ne _ _ hne]
    unfold farD fillTo; rw [if_pos hi]
  have fP : ∀ i, i < 16 → farP i = -1 := fun i hi => by unfold farP fillTo; rw [if_pos hi]
  have ht : TabOK (newF (m : Int)).k 0 (newF (m : Int)).r := by
    refine ⟨fun i hi => ⟨?_, ?_, ?_⟩, ⟨?_, fP m hm, fP m hm⟩, fun j hj hne => Or.inl (none_iff.2 ⟨fD j hj ?_, fP j hj, fP j hj⟩)⟩
    · show putN farD (m : Int) 0 i = 0
      unfold putN
      rw [if_pos (right_of hm), Int.toNat_natCast, setN_ne _ _ (by omega)]
      unfold farD fillTo; rw [if_neg (by omega)]
    · show farP i = 0
      unfold farP fillTo; rw [if_neg (by omega)]
    · show farP i = 0
      unfold farP fillTo; rw [if_neg (by omega)]
    · show putN farD (m : Int) 0 ((m : Int)).toNat = 0
      unfold putN
      rw [if_pos (right_of hm), setN_eq]
    · have hne : (j : Int) ≠ (m : Int) := hne
      omega
  refine ⟨?_, has_zero _⟩
  unfold sndB
  have p1 : soundF (cut (newF (m : Int)).r.d) (cut (newF (m : Int)).r.p) (newF (m : Int)).k.self = true := by
    rw [cut_id fun i hi => (ht.hi i hi).1, cut_id fun i hi => (ht.hi i hi).2.1]
    exact tab_sound hk hr ht
  have p2 : blkF (newF (m : Int)).k (newF (m : Int)).r.n (newF (m : Int)).least = 0 := by
    refine setOf_zero fun j hj => ?_
    unfold blkC
    have e : (newF (m : Int)).r.n j = -1 := fP j hj
    rw [e]; rfl
  have p3 : ((List.range 16).any (badR (newF (m : Int)))) = false := by
    rw [List.any_eq_false]
    intro j hj
    unfold badR
    have e1 : has (newF (m : Int)).act j = false := has_zero _
    have e2 : (newF (m : Int)).r.d j = (newF (m : Int)).least j := rfl
    rw [e1, e2, decide_eq_false (by omega)]
    simp
  have p4 : rdD (newF (m : Int)).act (newF (m : Int)).wait = 0 := rdD_zero fun j hj h => by
    have e1 : has (newF (m : Int)).act j = false := has_zero _
    rw [e1] at h; cases h
  rw [p1, p2, p3, p4]; rfl
theorem step_snd {l : LP} {o : OpS} (h : Inv l) (hw : InvW l) (hs : sndB l = true) (h0 : has l.act l.k.self = false) (ho : OpOK o) :
    sndB (stepF l o) = true ∧ has (stepF l o).act (stepF l o).k.self = false ∧ (stepE l o ≠ 0 → stepF l o = l) := by
  obtain ⟨⟨k1, k2, k3, k4, k5⟩, hr, hrow⟩ := h
  obtain ⟨a1, a2, a3⟩ := hw
  unfold stepF stepE
  by_cases c0 : o.kd = 0
  · rw [if_pos c0, if_pos c0]
    unfold upF
    cases hu : upO l o.n o.cost with
    | true =>
      rw [if_pos rfl]
      obtain ⟨q1, q2⟩ := anew_snd (l := upG l o.n o.cost) ⟨k1, inI_withN k2 _, inU_setN k3 ho.cost, inU_setT k4 (inU_putN inU_farD _ inU_zero), inI_setT k5 inI_farP⟩ hr a1 a2 h0
      refine ⟨q1, q2, fun he => absurd ?_ he⟩
      unfold upO at hu
      simp only [Bool.and_eq_true, Bool.not_eq_true'] at hu
      unfold upE
      rw [if_neg (by rw [hu.1]; decide), if_neg (by rw [hu.2.1]; decide), if_pos hu.2.2]
    | false =>
      rw [if_neg Bool.false_ne_true]
      exact ⟨hs, h0, fun _ => rfl⟩
  rw [if_neg c0, if_neg c0]
  by_cases c1 : o.kd = 1
  · rw [if_pos c1, if_pos c1]
    unfold downF lnE
    cases hn : has (nb l.k.up) o.n with
    | true =>
      rw [if_pos rfl, if_pos rfl]
      obtain ⟨q1, q2⟩ := anew_snd (l := dnG l o.n) ⟨k1, inI_withoutN k2 _, inU_setN k3 inU_zero, inU_setT k4 (inU_putN inU_farD _ inU_zero), inI_setT k5 inI_farP⟩ hr a1 (gone_ok o.n a2 16).1 h0
      exact ⟨q1, q2, fun he => absurd rfl he⟩
    | false =>
      rw [if_neg Bool.false_ne_true]
      exact ⟨hs, h0, fun _ => rfl⟩
  rw [if_neg c1, if_neg c1]
  by_cases c2 : o.kd = 2
  · rw [if_pos c2, if_pos c2]
    unfold costF coE
    cases hn : has (nb l.k.up) o.n with
    | true =>
      cases hc : costOk o.n o.cost with
      | true =>
        simp only [Bool.and_self, if_true]
        obtain ⟨q1, q2⟩ := anew_snd (l := coG l o.n o.cost) ⟨k1, inI_withN k2 _, inU_setN k3 ho.cost, k4, k5⟩ hr a1 a2 h0
        exact ⟨q1, q2, fun he => absurd rfl he⟩
      | false =>
        rw [if_neg (by decide)]
        exact ⟨hs, h0, fun _ => rfl⟩
    | false =>
      rw [if_neg (by simp)]
      exact ⟨hs, h0, fun _ => rfl⟩
  rw [if_neg c2, if_neg c2]
  by_cases c3 : o.kd = 3
  · rw [if_pos c3, if_pos c3]
    unfold heardF lnE
    cases hn : has (nb l.k.up) o.n with
    | true =>
      rw [if_pos rfl, if_pos rfl]
      obtain ⟨f1, f2⟩ := app_fit (k4 o.n.toNat) (k5 o.n.toNat) ho.its o.its.length (Nat.le_refl _)
      obtain ⟨q1, q2⟩ := anew_snd (l := hrG l o.n o.its) ⟨k1, k2, k3, inU_setT k4 f1, inI_setT k5 f2⟩ hr a1 (hr_ok (destTo o.its 2 o.its.length) o.n a2 (listTo (destTo o.its 2 o.its.length) 16).length).1 h0
      exact ⟨q1, q2, fun he => absurd rfl he⟩
    | false =>
      rw [if_neg Bool.false_ne_true]
      exact ⟨hs, h0, fun _ => rfl⟩
  rw [if_neg c3, if_neg c3]
  unfold drainF
  split
  · exact ⟨hs, h0, fun he => absurd rfl he⟩
  · exact ⟨hs, h0, fun _ => rfl⟩
theorem inv_play {m : Nat} (hm : m < 16) {ops : List OpS} (h : ∀ o, o ∈ ops → OpOK o) : ∀ k, k ≤ ops.length → Inv (plTo (newF m) ops k) ∧ InvW (plTo (newF m) ops k) ∧ sndB (plTo (newF m) ops k) = true ∧ has (plTo (newF m) ops k).act (plTo (newF m) ops k).k.self = false
  | 0, _ => ⟨inv_new hm, invW_new _, (snd_new hm).1, (snd_new hm).2⟩
  | k + 1, hk => by
    obtain ⟨h1, h2, h3, h4⟩ := inv_play hm h k (by omega)
    have ho : OpOK (ops.getD k op0) := by
      have : ops.getD k op0 = ops[k] := by simp [List.getD, List.getElem?_eq_getElem (show k < ops.length by omega)]
      rw [this]; exact h _ (List.getElem_mem _)
    rw [plTo_succ]
    obtain ⟨q1, q2, _⟩ := step_snd h1 h2 h3 h4 ho
    exact ⟨inv_step h1 ho, (step_rise h1 h2 ho).1, q1, q2⟩
theorem lpaSound_data {orc : Value → Option (List Itm)} (ops : List OpS) (l0 : ops.length ≤ maxLen) (hops : ∀ o, o ∈ ops → OpOK o ∧ (o.its ≠ [] → orc (.slice o.ad o.its.length o.cp) = some o.its)) (x0 : D) (w0 : x0.WF) (s0 : x0.shape = cI) (f0 : x0.fits) :
    evF Try.prog env (xo orc) (30) 13 [.d x0, .sl .ro shO (ops.map opD)] = some (.d (.s (.bool (true)))) := by
  obtain ⟨e2, i2⟩ := cell_i s0 f0
  rw [e2]
  obtain ⟨m, hm, em⟩ := rem16 i2
  have get : ∀ k, k < ops.length → ops.getD k op0 ∈ ops := fun k hk => by
    have : ops.getD k op0 = ops[k] := by simp [List.getD, List.getElem?_eq_getElem hk]
    rw [this]; exact List.getElem_mem _
  refine lpaSound_ev ops l0 (fun k hk => (hops _ (get k hk)).2) (intOf x0) m em fun hb k hk l hl => ?_
  obtain ⟨h1, h2, h3, h4⟩ := inv_play hm (fun o ho => (hops o ho).1) k (by omega)
  rw [hl] at h1 h2 h3 h4
  obtain ⟨q1, _, q3⟩ := step_snd h1 h2 h3 h4 (hops _ (get k hk)).1
  exact ⟨q1, q3⟩
open Go.ChangeShapes Go.WideShapes Go.ChangeAt Go.RowKit
set_option maxRecDepth 100000
theorem own : ownKnob Try.prog.godebug = none := by kernel_rfl
theorem laidOut : laidOutB Try.prog = true := by kernel_rfl
theorem lifted (os : Os) (started : os.Started) (H : Type) (enc : TypeId × Value → H) :
    ReturnsInHanded {} Try.checked os 13 .any (Rows.lpaSoundSpec.pre6 enc Try.prog Try.f13 Rows.lpaSoundRow.domain false) (Rows.lpaSoundSpec.post enc Try.prog Try.f13 false true false false) := by
  refine returnsInHanded_of_change (C := Try.checked) own started (by kernel_rfl) Try.func13
    (ChangeSpec.witness6 (enc := enc) (C := Try.checked) false ⟨#[], #[Z3.val, .slice none 0 0], []⟩ 8 (by kernel_rfl) (by kernel_rfl) (by kernel_rfl) (by kernel_rfl)) ?_
  intro W base args ds gs before hval0 hW hcnd _
  have hval : ∀ (j : Nat) t v, Try.f13.params[j]? = some t → args[j]? = some v → Value.okWide Try.prog W .any base t v := hval0
  have hW' := hW
  obtain ⟨p, q, hA0, hV, rfl, hfz, hnd⟩ := hW
  have hA : DataW.TrodAll enc Try.prog W 0 (fun _ => true) true Try.f13.params.toList args.toList ds p := hA0
  rw [Try.params13] at hA hval
  obtain ⟨v0, vs0, d0, ds0, p0, q0, hargs, rfl, rfl, h0, r0⟩ := trodAll_cons hA
  obtain ⟨v1, vs1, d1, ds1, p1, q1, rfl, rfl, rfl, h1, r1⟩ := trodAll_cons r0
  obtain ⟨rfl, rfl, rfl⟩ := trodAll_nil r1
  obtain rfl : args = #[v0, v1] := by cases args; simp_all
  obtain ⟨rfl, rfl⟩ := trodVars_none hV
  have k0 := h0
  have lt0 : ∀ x ∈ p0, x.block < W.heap.size := by obtain ⟨m, hm⟩ := k0; exact DataW.trod_lt m _ _ _ hm
  have k1 := h1
  have lt1 : ∀ x ∈ p1, x.block < W.heap.size := by obtain ⟨m, hm⟩ := k1; exact DataW.trod_lt m _ _ _ hm
  obtain ⟨x0, rfl, w0, s0, f0⟩ := open_data (d := 8) (sh := cI) (by kernel_rfl) (hval 0 3 v0 rfl rfl) h0
  obtain ⟨ops1, rs1, l1, hops1⟩ := open_ops (hval 1 86 v1 rfl rfl) h1
  obtain ⟨ops, eops, hops⟩ := pick W ops1 hops1
  rw [← eops] at rs1
  have l1 : ops.length ≤ maxLen := by
    have : (ops.map opD).length = (ops1.map opD).length := by rw [eops]
    rw [List.length_map, List.length_map] at this
    omega
  clear hA0 hval0
  refine ((evF_soundJ env_ok fns_ok (J := JW (orcW W) W.heap.size) (B0 := W.heap.size) JW_below (ext := xo (orcW W)) xo_ok 30 13 _ _ (lpaSound_data ops l1 hops x0 w0 s0 f0) W (orcW_J W) (Nat.le_refl _)).run [x0.val, v1] ⟨⟨w0, rfl⟩, rs1, trivial⟩).mono fun e W' ⟨u, he, bel0, hr⟩ => ?_
  have bel := bel0.toK
  obtain rfl : u = .bool true := hr.2
  subst he
  exact ⟨_, rfl, _, _, _, [], _, [], hW', trodAll_mk1 (shut_bool Try.underlying4 _), trodAll_cons_mk (Go.RowKit.Below.trod laidOut (by kernel_rfl) (of_decide_eq_true (by kernel_rfl)) k0 bel lt0) (trodAll_cons_mk (Go.RowKit.Below.trod laidOut (by kernel_rfl) (of_decide_eq_true (by kernel_rfl)) k1 bel lt1) trodAll_mk0), rfl, bel.frame _, fun h => by cases h⟩
theorem over : Rows.lpaSoundRow.holds Try.pinned (OpenSpec.ofChange Rows.lpaSoundSpec) :=
  OpenClaim.holds_of_wide 13 Try.f13 rfl rfl rfl rfl rfl rfl rfl ⟨rfl, rfl, rfl, rfl, rfl⟩ rfl rfl rfl rfl rfl (by kernel_rfl) Try.func13 (by kernel_rfl)
    (of_decide_eq_true (by kernel_rfl)) (by unfold Func.isWrapper; first | (rw [if_pos (by decide +kernel)]; kernel_rfl) | (rw [if_neg (by decide +kernel)]; exact ⟨rfl, rfl⟩))
    (fun os started H enc _ => lifted os started H enc)
theorem lpaSound_proved : Rows.LpaSoundSaid := over
#print axioms lpaSound_proved
end Go.Proofs.Ytfbaikkadndckaa.Ev
