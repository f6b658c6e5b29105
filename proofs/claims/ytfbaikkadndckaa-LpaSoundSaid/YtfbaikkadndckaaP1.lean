/- Plain law of a node's play: what is known fits, and each row that goes by a node is not far; each destination uses just one neighbour. -/
import Derived.Test.YtfbaikkadndckaaLv
import Derived.Test.YtfbaikkadndckaaSm
namespace Go.Proofs.Ytfbaikkadndckaa.Ev
open Go
attribute [local congr] ob_congr sq_congr cd_congr ite_congr1 iter_congr it1_congr jumps_congr
set_option maxRecDepth 100000
set_option linter.unusedSimpArgs false
set_option linter.unusedVariables false
/-- What a play keeps. -/
structure Inv (l : LP) : Prop where
  k : KnOK l.k
  self : right l.k.self = true
  row : ∀ j : Nat, j < 16 → right (l.r.n j) = true → l.r.d j ≠ 4294967295
theorem inU_far : inU 4294967295 := by unfold inU; omega
theorem inU_zero : inU 0 := by unfold inU; omega
theorem inI_neg : inI (-1) := by unfold inI; omega
theorem inU_setN {d : Nat → Int} (h : ∀ i, inU (d i)) {k : Nat} {v : Int} (hv : inU v) : ∀ i, inU (setN d k v i) := fun i => by
  unfold setN; split
  · exact hv
  · exact h i
theorem inI_setN {d : Nat → Int} (h : ∀ i, inI (d i)) {k : Nat} {v : Int} (hv : inI v) : ∀ i, inI (setN d k v i) := fun i => by
  unfold setN; split
  · exact hv
  · exact h i
theorem inU_setT {t : Nat → Nat → Int} (h : ∀ n i, inU (t n i)) {k : Nat} {v : Nat → Int} (hv : ∀ i, inU (v i)) : ∀ n i, inU (setN t k v n i) := fun n i => by
  unfold setN; split
  · exact hv i
  · exact h n i
theorem inI_setT {t : Nat → Nat → Int} (h : ∀ n i, inI (t n i)) {k : Nat} {v : Nat → Int} (hv : ∀ i, inI (v i)) : ∀ n i, inI (setN t k v n i) := fun n i => by
  unfold setN; split
  · exact hv i
  · exact h n i
theorem inU_farD (i : Nat) : inU (farD i) := by
  unfold farD fillTo
  split
  · exact inU_far
  · exact inU_zero
theorem inI_farP (i : Nat) : inI (farP i) := by
  unfold farP fillTo
  split
  · exact inI_neg
  · exact inI_zero
theorem inU_putN {d : Nat → Int} (h : ∀ i, inU (d i)) (j : Int) {v : Int} (hv : inU v) : ∀ i, inU (putN d j v i) := fun i => by
  unfold putN; split
  · exact inU_setN h hv i
  · exact h i
theorem row_settle {k : Kn} {skip : Int} (hk : KnOK k) (hs : right k.self = true) (j : Nat) (hj : j < 16) (h : right ((settleF k skip).n j) = true) : (settleF k skip).d j ≠ 4294967295 := by
  have ht := settle_ok (skip := skip) hk hs
  by_cases e : (j : Int) = k.self
  · have h3 := ht.self.2.2
    rw [← e, Int.toNat_natCast] at h3
    rw [h3] at h; cases h
  · rcases ht.row j hj e with q | ⟨n, q⟩
    · rw [(none_iff.1 q).2.2] at h; cases h
    · have pre := pre_ok q.pre
      rw [q.rd]
      obtain ⟨d1, d2⟩ := alD_eq hk pre
      have t2 := pre.t2
      have c2 := pre.c2
      rw [d1]
      omega
theorem anew_k (l : LP) : (anewF l).k = l.k := by
  show (lastF l).k = l.k
  exact (rdTo_k l _ _).1
theorem anew_r (l : LP) : ∃ s, (anewF l).r = settleF l.k s := by
  refine ⟨aF (rdTo l (nb l.k.up) (anN l (nb l.k.up))), ?_⟩
  show (lastF l).r = _
  unfold lastF
  rw [rdTo_succ]
  show rF (rdTo l (nb l.k.up) (anN l (nb l.k.up))) = _
  unfold rF
  rw [(rdTo_k l _ _).1]
theorem inv_anew {l : LP} (hk : KnOK l.k) (hs : right l.k.self = true) : Inv (anewF l) := by
  obtain ⟨s, e⟩ := anew_r l
  refine ⟨by rw [anew_k]; exact hk, by rw [anew_k]; exact hs, fun j hj h => ?_⟩
  rw [e] at h ⊢
  exact row_settle hk hs j hj h
theorem newTo_u {v : Nat → Int} (hv : ∀ i, inU (v i)) : ∀ k n i, inU (newTo v k n i)
  | 0, _, _ => inU_zero
  | k + 1, n, i => by rw [newTo_succ]; exact inU_setT (newTo_u hv k) hv n i
theorem newTo_i {v : Nat → Int} (hv : ∀ i, inI (v i)) : ∀ k n i, inI (newTo v k n i)
  | 0, _, _ => inI_zero
  | k + 1, n, i => by rw [newTo_succ]; exact inI_setT (newTo_i hv k) hv n i
theorem inv_new {m : Nat} (hm : m < 16) : Inv (newF m) := by
  refine ⟨⟨?_, inI_zero, fun _ => inU_zero, newTo_u (inU_putN inU_farD _ inU_zero) 16, newTo_i inI_farP 16⟩, right_of hm, fun j hj h => ?_⟩
  · show inI (m : Int); unfold inI; omega
  · have e : (newF m).r.n j = -1 := by
      show farP j = -1
      unfold farP fillTo
      rw [if_pos hj]
    rw [e] at h; cases h
structure ItmOK (x : Itm) : Prop where
  d : inU x.d
  p : inI x.p
structure OpOK (o : OpS) : Prop where
  cost : inU o.cost
  its : ∀ x, x ∈ o.its → ItmOK x
theorem app_fit {d p : Nat → Int} (hd : ∀ i, inU (d i)) (hp : ∀ i, inI (p i)) {l : List Itm} (hl : ∀ x, x ∈ l → ItmOK x) : ∀ k, k ≤ l.length → (∀ i, inU ((appTo l ⟨d, p⟩ k).d i)) ∧ ∀ i, inI ((appTo l ⟨d, p⟩ k).p i)
  | 0, _ => ⟨hd, hp⟩
  | k + 1, hk => by
    have hx : l.getD k ⟨0, 0, 0, 0⟩ = l[k] := by simp [List.getD, List.getElem?_eq_getElem (show k < l.length by omega)]
    rw [appTo_succ l _ k hx]
    obtain ⟨h1, h2⟩ := app_fit hd hp hl k (by omega)
    have ho := hl l[k] (List.getElem_mem _)
    unfold app1
    split
    · exact ⟨inU_setN h1 ho.d, inI_setN h2 ho.p⟩
    · exact ⟨h1, h2⟩
theorem inv_step {l : LP} {o : OpS} (h : Inv l) (ho : OpOK o) : Inv (stepF l o) := by
  obtain ⟨⟨k1, k2, k3, k4, k5⟩, hs, hr⟩ := h
  have hl : Inv l := ⟨⟨k1, k2, k3, k4, k5⟩, hs, hr⟩
  unfold stepF
  split
  · unfold upF
    split
    · exact inv_anew ⟨k1, inI_withN k2 _, inU_setN k3 ho.cost, inU_setT k4 (inU_putN inU_farD _ inU_zero), inI_setT k5 inI_farP⟩ hs
    · exact hl
  split
  · unfold downF
    split
    · exact inv_anew ⟨k1, inI_withoutN k2 _, inU_setN k3 inU_zero, inU_setT k4 (inU_putN inU_farD _ inU_zero), inI_setT k5 inI_farP⟩ hs
    · exact hl
  split
  · unfold costF
    split
    · exact inv_anew ⟨k1, inI_withN k2 _, inU_setN k3 ho.cost, k4, k5⟩ hs
    · exact hl
  split
  · unfold heardF
    split
    · obtain ⟨q1, q2⟩ := app_fit (k4 o.n.toNat) (k5 o.n.toNat) ho.its o.its.length (Nat.le_refl _)
      exact inv_anew ⟨k1, k2, k3, inU_setT k4 q1, inI_setT k5 q2⟩ hs
    · exact hl
  · unfold drainF
    split
    · exact ⟨⟨k1, k2, k3, k4, k5⟩, hs, hr⟩
    · exact hl
end Go.Proofs.Ytfbaikkadndckaa.Ev
