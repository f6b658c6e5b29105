/- Plain law of a node's play: what is known fits, and each row that goes by a node is not far; each destination uses just one neighbour. -/
import Derived.Test.YtfbaikkadndckaaLv
import Derived.Test.YtfbaikkadndckaaLz
import Derived.Test.YtfbaikkadndckaaSm
namespace Go.Proofs.Ytfbaikkadndckaa.Ev
open Go
attribute [local congr] ob_congr sq_congr cd_congr ite_congr1 iter_congr it1_congr jumps_congr
set_option maxRecDepth 100000
set_option linter.unusedSimpArgs false
set_option linter.unusedVariables false
/-- What a play keeps. -/
structure Inv (l : LP) : Prop where
  k : KnOK l.k
  self : right l.k.self = true
  row : ∀ j : Nat, j < 16 → right (l.r.n j) = true → l.r.d j ≠ 4294967295
theorem inU_far : inU 4294967295 := by unfold inU; omega
theorem inU_zero : inU 0 := by unfold inU; omega
theorem inI_neg : inI (-1) := by unfold inI; omega
theorem inU_setN {d : Nat → Int} (h : ∀ i, inU (d i)) {k : Nat} {v : Int} (hv : inU v) : ∀ i, inU (setN d k v i) := fun i => by
  unfold setN; split
  · exact hv
  · exact h i
theorem inI_setN {d : Nat → Int} (h : ∀ i, inI (d i)) {k : Nat} {v : Int} (hv : inI v) : ∀ i, inI (setN d k v i) := fun i => by
  unfold setN; split
  · exact hv
  · exact h i
theorem inU_setT {t : Nat → Nat → Int} (h : ∀ n i, inU (t n i)) {k : Nat} {v : Nat → Int} (hv : ∀ i, inU (v i)) : ∀ n i, inU (setN t k v n i) := fun n i => by
  unfold setN; split
  · exact hv i
  · exact h n i
theorem inI_setT {t : Nat → Nat → Int} (h : ∀ n i, inI (t n i)) {k : Nat} {v : Nat → Int} (hv : ∀ i, inI (v i)) : ∀ n i, inI (setN t k v n i) := fun n i => by
  unfold setN; split
  · exact hv i
  · exact h n i
theorem inU_farD (i : Nat) : inU (farD i) := by
  unfold farD fillTo
  split
  · exact inU_far
  · exact inU_zero
theorem inI_farP (i : Nat) : inI (farP i) := by
  unfold farP fillTo
  split
  · exact inI_neg
  · exact inI_zero
theorem inU_putN {d : Nat → Int} (h : ∀ i, inU (d i)) (j : Int) {v : Int} (hv : inU v) : ∀ i, inU (putN d j v i) := fun i => by
  unfold putN; split
  · exact inU_setN h hv i
  · exact h i
theorem row_settle {k : Kn} {skip : Int} (hk : KnOK k) (hs : right k.self = true) (j : Nat) (hj : j < 16) (h : right ((settleF k skip).n j) = true) : (settleF k skip).d j ≠ 4294967295 := by
  have ht := settle_ok (skip := skip) hk hs
  by_cases e : (j : Int) = k.self
  · have h3 := ht.self.2.2
    rw [← e, Int.toNat_natCast] at h3
    rw [h3] at h; cases h
  · rcases ht.row j hj e with q | ⟨n, q⟩
    · rw [(none_iff.1 q).2.2] at h; cases h
    · have pre := pre_ok q.pre
      rw [q.rd]
      obtain ⟨d1, d2⟩ := alD_eq hk pre
      have t2 := pre.t2
      have c2 := pre.c2
      rw [d1]
      omega
theorem anew_k (l : LP) : (anewF l).k = l.k := by
  show (lastF l).k = l.k
  exact (rdTo_k l _ _).1
theorem anew_r (l : LP) : ∃ s, (anewF l).r = settleF l.k s := by
  refine ⟨aF (rdTo l (nb l.k.up) (anN l (nb l.k.up))), ?_⟩
  show (lastF l).r = _
  unfold lastF
  rw [rdTo_succ]
  show rF (rdTo l (nb l.k.up) (anN l (nb l.k.up))) = _
  unfold rF
  rw [(rdTo_k l _ _).1]
theorem inv_anew {l : LP} (hk : KnOK l.k) (hs : right l.k.self = true) : Inv (anewF l) := by
  obtain ⟨s, e⟩ := anew_r l
  refine ⟨by rw [anew_k]; exact hk, by rw [anew_k]; exact hs, fun j hj h => ?_⟩
  rw [e] at h ⊢
  exact row_settle hk hs j hj h
theorem newTo_u {v : Nat → Int} (hv : ∀ i, inU (v i)) : ∀ k n i, inU (newTo v k n i)
  | 0, _, _ => inU_zero
  | k + 1, n, i => by rw [newTo_succ]; exact inU_setT (newTo_u hv k) hv n i
theorem newTo_i {v : Nat → Int} (hv : ∀ i, inI (v i)) : ∀ k n i, inI (newTo v k n i)
  | 0, _, _ => inI_zero
  | k + 1, n, i => by rw [newTo_succ]; exact inI_setT (newTo_i hv k) hv n i
theorem inv_new {m : Nat} (hm : m < 16) : Inv (newF m) := by
  refine ⟨⟨?_, inI_zero, fun _ => inU_zero, newTo_u (inU_putN inU_farD _ inU_zero) 16, newTo_i inI_farP 16⟩, right_of hm, fun j hj h => ?_⟩
  · show inI (m : Int); unfold inI; omega
  · have e : (newF m).r.n j = -1 := by
      show farP j = -1
      unfold farP fillTo
      rw [if_pos hj]
    rw [e] at h; cases h
structure ItmOK (x : Itm) : Prop where
  d : inU x.d
  p : inI x.p
structure OpOK (o : OpS) : Prop where
  cost : inU o.cost
  its : ∀ x, x ∈ o.its → ItmOK x
theorem app_fit {d p : Nat → Int} (hd : ∀ i, inU (d i)) (hp : ∀ i, inI (p i)) {l : List Itm} (hl : ∀ x, x ∈ l → ItmOK x) : ∀ k, k ≤ l.length → (∀ i, inU ((appTo l ⟨d, p⟩ k).d i)) ∧ ∀ i, inI ((appTo l ⟨d, p⟩ k).p i)
  | 0, _ => ⟨hd, hp⟩
  | k + 1, hk => by
    have hx : l.getD k ⟨0, 0, 0, 0⟩ = l[k] := by simp [List.getD, List.getElem?_eq_getElem (show k < l.length by omega)]
    rw [appTo_succ l _ k hx]
    obtain ⟨h1, h2⟩ := app_fit hd hp hl k (by omega)
    have ho := hl l[k] (List.getElem_mem _)
    unfold app1
    split
    · exact ⟨inU_setN h1 ho.d, inI_setN h2 ho.p⟩
    · exact ⟨h1, h2⟩
theorem inv_step {l : LP} {o : OpS} (h : Inv l) (ho : OpOK o) : Inv (stepF l o) := by
  obtain ⟨⟨k1, k2, k3, k4, k5⟩, hs, hr⟩ := h
  have hl : Inv l := ⟨⟨k1, k2, k3, k4, k5⟩, hs, hr⟩
  unfold stepF
  split
  · unfold upF
    split
    · exact inv_anew ⟨k1, inI_withN k2 _, inU_setN k3 ho.cost, inU_setT k4 (inU_putN inU_farD _ inU_zero), inI_setT k5 inI_farP⟩ hs
    · exact hl
  split
  · unfold downF
    split
    · exact inv_anew ⟨k1, inI_withoutN k2 _, inU_setN k3 inU_zero, inU_setT k4 (inU_putN inU_farD _ inU_zero), inI_setT k5 inI_farP⟩ hs
    · exact hl
  split
  · unfold costF
    split
    · exact inv_anew ⟨k1, inI_withN k2 _, inU_setN k3 ho.cost, k4, k5⟩ hs
    · exact hl
  split
  · unfold heardF
    split
    · obtain ⟨q1, q2⟩ := app_fit (k4 o.n.toNat) (k5 o.n.toNat) ho.its o.its.length (Nat.le_refl _)
      exact inv_anew ⟨k1, k2, k3, inU_setT k4 q1, inI_setT k5 q2⟩ hs
    · exact hl
  · unfold drainF
    split
    · exact ⟨⟨k1, k2, k3, k4, k5⟩, hs, hr⟩
    · exact hl
theorem sT_at (st : Nat → Int) {i : Nat} (h : i < 16) : sT st i = st i := by
  unfold sT fillTo; rw [if_pos h]
theorem nxTo_at (s rN : Nat → Int) (i : Nat) : ∀ k, nxTo s rN k i = if i < k ∧ upS s (rN i) = true then rN i else m1F i
  | 0 => by rw [if_neg (by omega)]; rfl
  | k + 1 => by
    rw [nxTo_succ]
    unfold nx1
    by_cases e : i = k
    · subst e
      split
      · rename_i h; rw [setN_eq, if_pos ⟨by omega, h⟩]
      · rename_i h; rw [nxTo_at s rN i i, if_neg (by omega), if_neg (fun q => h q.2)]
    · have : (if upS s (rN k) = true then setN (nxTo s rN k) k (rN k) else nxTo s rN k) i = nxTo s rN k i := by
        split
        · rw [setN_ne _ _ e]
        · rfl
      rw [this, nxTo_at s rN i k]
      by_cases q : i < k
      · simp [q, show i < k + 1 by omega]
      · simp [q, show ¬ i < k + 1 by omega]
theorem nx_right {st rN : Nat → Int} {i : Nat} (hi : i < 16) (h : right (nxTo (sT st) rN 16 i) = true) : nxTo (sT st) rN 16 i = rN i ∧ st (rN i).toNat = 2 := by
  rw [nxTo_at] at h ⊢
  split at h
  · rename_i q
    rw [if_pos q]
    have hu := q.2
    unfold upS at hu
    rw [Bool.and_eq_true] at hu
    have hr := right_nn hu.1
    have := hu.2
    rw [sT_at st (by omega)] at this
    exact ⟨rfl, by simpa using this⟩
  · have e : m1F i = -1 := by unfold m1F fillTo; rw [if_pos hi]
    rw [e] at h; cases h
def allT (F : Nat → Int) (k : Nat) : Int := upto (fun k a => bits .or .i64 a (setOf (useC F k) 16)) 0 k
theorem allT_succ (F : Nat → Int) (k : Nat) : allT F (k + 1) = bits .or .i64 (allT F k) (setOf (useC F k) 16) := by simp only [allT, upto]
theorem tb_allT (F : Nat → Int) (i : Nat) : ∀ k, k ≤ 16 → tb (allT F k) i = (decide (i < 16) && (right (F i) && decide (F i < (k : Int))))
  | 0, _ => by
    show tb 0 i = _
    rw [tb_zero]
    cases h : right (F i) with
    | false => simp
    | true => have := right_nn h; simp; omega
  | k + 1, hk => by
    rw [allT_succ, tb_or, tb_allT F i k (by omega), tb_setOf _ _ 16 (Nat.le_refl _)]
    unfold useC
    by_cases h1 : i < 16
    · cases h2 : right (F i) with
      | false => simp
      | true =>
        have e : decide (F i < ((k + 1 : Nat) : Int)) = (decide (F i < (k : Int)) || (F i == (k : Int))) := by
          rw [Bool.eq_iff_iff]
          simp
          omega
        rw [e]
        simp [h1]
    · simp [h1]
theorem inI_allT (F : Nat → Int) : ∀ k, inI (allT F k)
  | 0 => inI_zero
  | k + 1 => by rw [allT_succ]; exact inI_bits _ _ _
theorem fib_one {A : LP} (hA : Inv A) (st : Nat → Int) {F : Nat → Int} (hF : nxTo (sT st) A.r.n 16 = F) :
    (∀ k : Nat, k < 16 → bits .and .i64 (setOf (useC F k) 16) (allT F k) = 0) ∧ (∀ k : Nat, k < 16 → setOf (useC F k) 16 ≠ 0 → st k = 2) ∧ (∀ j : Nat, j < 16 → has (allT F 16) j = true → A.r.d j ≠ 4294967295) ∧ allT F 16 = setOf (wyC F) 16 := by
  subst hF
  refine ⟨fun k hk => ?_, fun k hk h => ?_, fun j hj h => ?_, ?_⟩
  · refine tb_ext (inI_bits _ _ _) inI_zero fun i _ => ?_
    rw [tb_and, tb_setOf _ _ 16 (Nat.le_refl _), tb_allT _ _ k (by omega), tb_zero]
    unfold useC
    by_cases h3 : nxTo (sT st) A.r.n 16 i = (k : Int)
    · simp [h3]
    · simp [h3]
  · obtain ⟨i, hi, hu⟩ : ∃ i, i < 16 ∧ useC (nxTo (sT st) A.r.n 16) k i = true := by
      refine Classical.byContradiction fun hn => h (tb_ext (inI_setOf _ _) inI_zero fun i _ => ?_)
      rw [tb_setOf _ _ 16 (Nat.le_refl _), tb_zero]
      by_cases hi : i < 16
      · cases hc : useC (nxTo (sT st) A.r.n 16) k i with
        | false => simp
        | true => exact absurd ⟨i, hi, hc⟩ hn
      · simp [hi]
    unfold useC at hu
    rw [Bool.and_eq_true] at hu
    obtain ⟨e1, e2⟩ := nx_right hi hu.1
    have e3 : nxTo (sT st) A.r.n 16 i = (k : Int) := by simpa using hu.2
    rw [e1] at e3
    rw [e3, Int.toNat_natCast] at e2
    exact e2
  · rw [has_nat (inI_allT _ _) hj, tb_allT _ _ 16 (Nat.le_refl _), Bool.and_eq_true, Bool.and_eq_true] at h
    obtain ⟨e1, _⟩ := nx_right hj h.2.1
    exact hA.row j hj (by rw [← e1]; exact h.2.1)
  · refine tb_ext (inI_allT _ _) (inI_setOf _ _) fun i _ => ?_
    rw [tb_allT _ _ 16 (Nat.le_refl _), tb_setOf _ _ 16 (Nat.le_refl _)]
    unfold wyC
    cases h : right (nxTo (sT st) A.r.n 16 i) with
    | false => simp
    | true => have := right_nn h; simp; omega
end Go.Proofs.Ytfbaikkadndckaa.Ev
