/- The closed run of the laws of lpa, by what its functions compute; lpa.Sound. -/
import Derived.Test.YtjceimcepogkaaaGreatDoorLv
namespace Go.Proofs.YtjceimcepogkaaaGreatDoor.Ev
open Go
attribute [local congr] ob_congr sq_congr cd_congr ite_congr1 iter_congr it1_congr jumps_congr
set_option maxRecDepth 100000
set_option linter.unusedSimpArgs false
set_option linter.unusedVariables false
/-- A node that is sound. -/
def badR (l : LP) (j : Nat) : Bool := decide (l.r.d j < l.least j) || (has l.act j && (l.r.d j != 4294967295))
noncomputable def sndB (l : LP) : Bool := soundF (cut l.r.d) (cut l.r.p) l.k.self && ((blkF l.k l.r.n l.least == 0) && (!((List.range 16).any (badR l)) && (rdD l.act l.wait == 0)))
set_option maxHeartbeats 2000000 in
theorem lpSound_ev (K : Nat) (l : LP) : evF Tryz.prog env xt (K+7) 29 [.d (lpD l)] = some (.d (.s (.bool (sndB l)))) := by
  rw [evF_eq Tryz.func29 (show Tryz.f29.body = some _ from rfl) rfl rfl rfl (by show 1 ≤ 51; decide)]
  have eT := tree_ev (K+5) l.r.d l.r.p l.r.n
  have eS := sound_ev K (cut l.r.d) (cut l.r.p) l.k.self
  have eB : evF Tryz.prog env xt (K+6) 81 [.d (knD l.k.self l.k.up l.k.c l.k.tD l.k.tP), .d (rowsD l.r.d l.r.p l.r.n), .d (arrU l.least)] = some (.d (.s (.int .i64 (blkF l.k l.r.n l.least)))) := blocked_ev (K+2) l.k.self l.k.up l.k.c l.k.tD l.k.tP l.r.d l.r.p l.r.n l.least
  have eP := rdD_ev l.act l.wait (K+2)
  have es : sndB l = (soundF (cut l.r.d) (cut l.r.p) l.k.self && ((blkF l.k l.r.n l.least == 0) && (!((List.range 16).any (badR l)) && (rdD l.act l.wait == 0)))) := rfl
  generalize soundF (cut l.r.d) (cut l.r.p) l.k.self = b1 at eS es
  generalize blkF l.k l.r.n l.least = b2 at eB es
  generalize rdD l.act l.wait = b3 at eP es
  rw [es]
  cases b1 with
  | false => simp (decide := true) only [eT, eS, Tryz.f29, rid, kl29_4, dp29_1, dp29_6, ↓sBp, sBq, List.all_cons, List.all_nil, List.map_cons, List.map_nil, D.shape, Sh.sub, Sh.size, List.getElem?_cons_zero, List.getElem?_cons_succ, Option.bind_some, Option.bind_none, Option.getD_some, Option.getD_none, V.keysIn, V.kill, V.has, decide_eq_true_eq, beq_iff_eq, bne_iff_ne, ne_eq, Bool.not_eq_true', Bool.and_true, Bool.and_self, Bool.true_and, if_true, if_false, reduceIte, Bool.false_eq_true, decide_true, decide_false, beq_self_eq_true, Bool.not_true, Bool.not_false, true_and, and_true, and_self, List.append_assoc, List.nil_append, List.cons_append, Int.toNat_natCast, ck, Int.cast_ofNat_Int, Int.reduceToNat, bne_self_eq_false, Bool.or_false, Bool.false_or, Bool.false_and, Bool.and_false, Bool.or_true, Bool.true_or]
  | true =>
    rcases Bool.eq_false_or_eq_true (b2 != 0) with h2 | h2
    · have h2' : (b2 == 0) = false := by simpa [bne] using h2
      simp (decide := true) only [eT, eS, eB, h2, h2', Tryz.f29, rid, kl29_4, dp29_1, dp29_6, ↓sBp, sBq, List.all_cons, List.all_nil, List.map_cons, List.map_nil, D.shape, Sh.sub, Sh.size, List.getElem?_cons_zero, List.getElem?_cons_succ, Option.bind_some, Option.bind_none, Option.getD_some, Option.getD_none, V.keysIn, V.kill, V.has, decide_eq_true_eq, beq_iff_eq, bne_iff_ne, ne_eq, Bool.not_eq_true', Bool.and_true, Bool.and_self, Bool.true_and, if_true, if_false, reduceIte, Bool.false_eq_true, decide_true, decide_false, beq_self_eq_true, Bool.not_true, Bool.not_false, true_and, and_true, and_self, List.append_assoc, List.nil_append, List.cons_append, Int.toNat_natCast, ck, Int.cast_ofNat_Int, Int.reduceToNat, bne_self_eq_false, Bool.or_false, Bool.false_or, Bool.false_and, Bool.and_false, Bool.or_true, Bool.true_or]
    · have h2' : (b2 == 0) = true := by simpa [bne] using h2
      by_cases hx : ∃ j, j < 16 ∧ badR l j = true
      · obtain ⟨N, hN, hN2, hN3⟩ := first_of hx
        have ha : ((List.range 16).any (badR l)) = true := List.any_eq_true.2 ⟨N, by simpa using hN, hN2⟩
        rw [ha]
        simp (decide := true) only [eT, eS, eB, h2, h2', Tryz.f29, rid, kl29_4, dp29_1, dp29_6, ↓sBp, sBq, List.all_cons, List.all_nil, List.map_cons, List.map_nil, D.shape, Sh.sub, Sh.size, List.getElem?_cons_zero, List.getElem?_cons_succ, Option.bind_some, Option.bind_none, Option.getD_some, Option.getD_none, V.keysIn, V.kill, V.has, decide_eq_true_eq, beq_iff_eq, bne_iff_ne, ne_eq, Bool.not_eq_true', Bool.and_true, Bool.and_self, Bool.true_and, if_true, if_false, reduceIte, Bool.false_eq_true, decide_true, decide_false, beq_self_eq_true, Bool.not_true, Bool.not_false, true_and, and_true, and_self, List.append_assoc, List.nil_append, List.cons_append, Int.toNat_natCast, ck, Int.cast_ofNat_Int, Int.reduceToNat, bne_self_eq_false, Bool.or_false, Bool.false_or, Bool.false_and, Bool.and_false, Bool.or_true, Bool.true_or]
        rw [iter_run (S := fun k => ⟨tab .junk [(1, .ptr 1 (shL) [] (shL)), (24, .d (rowsD l.r.d l.r.p l.r.n)), (25, .d (.s (.int .i64 (k))))], tab none [(1, some (.box (lpD l)))]⟩) (n := N) (h0 := ?h0) (hn := ?hn) (step := ?step)]
        case h0 => rfl
        case hn => exact lt_loopFuel (by omega)
        case step =>
          intro k hk
          have hk1 : (k : Int) < 16 := by omega
          have hk0 : (0 : Int) ≤ k := by omega
          have hkw := wrap_succ k (by omega)
          have hb := hN3 k hk
          unfold badR at hb
          simp only [Bool.or_eq_true, decide_eq_true_eq, Bool.and_eq_true, not_or, not_and, Bool.not_eq_true] at hb
          obtain ⟨hb1, hb2⟩ := hb
          rcases Bool.eq_false_or_eq_true (has l.act k) with h3 | h3
          · have h4 := hb2 h3
            simp (decide := true) only [hk1, hk0, hkw, hb1, has_ev, h3, h4, Tryz.f29, rid, kl29_4, dp29_1, dp29_6, ↓sBp, sBq, List.all_cons, List.all_nil, List.map_cons, List.map_nil, D.shape, Sh.sub, Sh.size, List.getElem?_cons_zero, List.getElem?_cons_succ, Option.bind_some, Option.bind_none, Option.getD_some, Option.getD_none, V.keysIn, V.kill, V.has, decide_eq_true_eq, beq_iff_eq, bne_iff_ne, ne_eq, Bool.not_eq_true', Bool.and_true, Bool.and_self, Bool.true_and, if_true, if_false, reduceIte, Bool.false_eq_true, decide_true, decide_false, beq_self_eq_true, Bool.not_true, Bool.not_false, true_and, and_true, and_self, List.append_assoc, List.nil_append, List.cons_append, Int.toNat_natCast, ck, Int.cast_ofNat_Int, Int.reduceToNat, bne_self_eq_false, Bool.or_false, Bool.false_or, Bool.false_and, Bool.and_false, Bool.or_true, Bool.true_or]
          · simp (decide := true) only [hk1, hk0, hkw, hb1, has_ev, h3, Tryz.f29, rid, kl29_4, dp29_1, dp29_6, ↓sBp, sBq, List.all_cons, List.all_nil, List.map_cons, List.map_nil, D.shape, Sh.sub, Sh.size, List.getElem?_cons_zero, List.getElem?_cons_succ, Option.bind_some, Option.bind_none, Option.getD_some, Option.getD_none, V.keysIn, V.kill, V.has, decide_eq_true_eq, beq_iff_eq, bne_iff_ne, ne_eq, Bool.not_eq_true', Bool.and_true, Bool.and_self, Bool.true_and, if_true, if_false, reduceIte, Bool.false_eq_true, decide_true, decide_false, beq_self_eq_true, Bool.not_true, Bool.not_false, true_and, and_true, and_self, List.append_assoc, List.nil_append, List.cons_append, Int.toNat_natCast, ck, Int.cast_ofNat_Int, Int.reduceToNat, bne_self_eq_false, Bool.or_false, Bool.false_or, Bool.false_and, Bool.and_false, Bool.or_true, Bool.true_or]
        have hk1 : (N : Int) < 16 := by omega
        have hk0 : (0 : Int) ≤ N := by omega
        unfold badR at hN2
        by_cases hb1 : l.r.d N < l.least N
        · simp (decide := true) only [hk1, hk0, hb1, Tryz.f29, rid, kl29_4, dp29_1, dp29_6, ↓sBp, sBq, List.all_cons, List.all_nil, List.map_cons, List.map_nil, D.shape, Sh.sub, Sh.size, List.getElem?_cons_zero, List.getElem?_cons_succ, Option.bind_some, Option.bind_none, Option.getD_some, Option.getD_none, V.keysIn, V.kill, V.has, decide_eq_true_eq, beq_iff_eq, bne_iff_ne, ne_eq, Bool.not_eq_true', Bool.and_true, Bool.and_self, Bool.true_and, if_true, if_false, reduceIte, Bool.false_eq_true, decide_true, decide_false, beq_self_eq_true, Bool.not_true, Bool.not_false, true_and, and_true, and_self, List.append_assoc, List.nil_append, List.cons_append, Int.toNat_natCast, ck, Int.cast_ofNat_Int, Int.reduceToNat, bne_self_eq_false, Bool.or_false, Bool.false_or, Bool.false_and, Bool.and_false, Bool.or_true, Bool.true_or]
        · rw [decide_eq_false hb1, Bool.false_or, Bool.and_eq_true] at hN2
          obtain ⟨h3, h4⟩ := hN2
          simp (decide := true) only [hk1, hk0, hb1, has_ev, h3, h4, Tryz.f29, rid, kl29_4, dp29_1, dp29_6, ↓sBp, sBq, List.all_cons, List.all_nil, List.map_cons, List.map_nil, D.shape, Sh.sub, Sh.size, List.getElem?_cons_zero, List.getElem?_cons_succ, Option.bind_some, Option.bind_none, Option.getD_some, Option.getD_none, V.keysIn, V.kill, V.has, decide_eq_true_eq, beq_iff_eq, bne_iff_ne, ne_eq, Bool.not_eq_true', Bool.and_true, Bool.and_self, Bool.true_and, if_true, if_false, reduceIte, Bool.false_eq_true, decide_true, decide_false, beq_self_eq_true, Bool.not_true, Bool.not_false, true_and, and_true, and_self, List.append_assoc, List.nil_append, List.cons_append, Int.toNat_natCast, ck, Int.cast_ofNat_Int, Int.reduceToNat, bne_self_eq_false, Bool.or_false, Bool.false_or, Bool.false_and, Bool.and_false, Bool.or_true, Bool.true_or]
      · have ha : ((List.range 16).any (badR l)) = false := by
          rw [List.any_eq_false]
          intro j hj q
          exact hx ⟨j, by simpa using hj, q⟩
        rw [ha]
        simp (decide := true) only [eT, eS, eB, h2, h2', Tryz.f29, rid, kl29_4, dp29_1, dp29_6, ↓sBp, sBq, List.all_cons, List.all_nil, List.map_cons, List.map_nil, D.shape, Sh.sub, Sh.size, List.getElem?_cons_zero, List.getElem?_cons_succ, Option.bind_some, Option.bind_none, Option.getD_some, Option.getD_none, V.keysIn, V.kill, V.has, decide_eq_true_eq, beq_iff_eq, bne_iff_ne, ne_eq, Bool.not_eq_true', Bool.and_true, Bool.and_self, Bool.true_and, if_true, if_false, reduceIte, Bool.false_eq_true, decide_true, decide_false, beq_self_eq_true, Bool.not_true, Bool.not_false, true_and, and_true, and_self, List.append_assoc, List.nil_append, List.cons_append, Int.toNat_natCast, ck, Int.cast_ofNat_Int, Int.reduceToNat, bne_self_eq_false, Bool.or_false, Bool.false_or, Bool.false_and, Bool.and_false, Bool.or_true, Bool.true_or]
        rw [iter_run (S := fun k => ⟨tab .junk [(1, .ptr 1 (shL) [] (shL)), (24, .d (rowsD l.r.d l.r.p l.r.n)), (25, .d (.s (.int .i64 (k))))], tab none [(1, some (.box (lpD l)))]⟩) (n := 16) (h0 := ?h0) (hn := lt_loopFuel (by decide)) (step := ?step)]
        case h0 => rfl
        case step =>
          intro k hk
          have hk1 : (k : Int) < 16 := by omega
          have hk0 : (0 : Int) ≤ k := by omega
          have hkw := wrap_succ k (by omega)
          have hb : ¬ badR l k = true := fun q => hx ⟨k, hk, q⟩
          unfold badR at hb
          simp only [Bool.or_eq_true, decide_eq_true_eq, Bool.and_eq_true, not_or, not_and, Bool.not_eq_true] at hb
          obtain ⟨hb1, hb2⟩ := hb
          rcases Bool.eq_false_or_eq_true (has l.act k) with h3 | h3
          · have h4 := hb2 h3
            simp (decide := true) only [hk1, hk0, hkw, hb1, has_ev, h3, h4, Tryz.f29, rid, kl29_4, dp29_1, dp29_6, ↓sBp, sBq, List.all_cons, List.all_nil, List.map_cons, List.map_nil, D.shape, Sh.sub, Sh.size, List.getElem?_cons_zero, List.getElem?_cons_succ, Option.bind_some, Option.bind_none, Option.getD_some, Option.getD_none, V.keysIn, V.kill, V.has, decide_eq_true_eq, beq_iff_eq, bne_iff_ne, ne_eq, Bool.not_eq_true', Bool.and_true, Bool.and_self, Bool.true_and, if_true, if_false, reduceIte, Bool.false_eq_true, decide_true, decide_false, beq_self_eq_true, Bool.not_true, Bool.not_false, true_and, and_true, and_self, List.append_assoc, List.nil_append, List.cons_append, Int.toNat_natCast, ck, Int.cast_ofNat_Int, Int.reduceToNat, bne_self_eq_false, Bool.or_false, Bool.false_or, Bool.false_and, Bool.and_false, Bool.or_true, Bool.true_or]
          · simp (decide := true) only [hk1, hk0, hkw, hb1, has_ev, h3, Tryz.f29, rid, kl29_4, dp29_1, dp29_6, ↓sBp, sBq, List.all_cons, List.all_nil, List.map_cons, List.map_nil, D.shape, Sh.sub, Sh.size, List.getElem?_cons_zero, List.getElem?_cons_succ, Option.bind_some, Option.bind_none, Option.getD_some, Option.getD_none, V.keysIn, V.kill, V.has, decide_eq_true_eq, beq_iff_eq, bne_iff_ne, ne_eq, Bool.not_eq_true', Bool.and_true, Bool.and_self, Bool.true_and, if_true, if_false, reduceIte, Bool.false_eq_true, decide_true, decide_false, beq_self_eq_true, Bool.not_true, Bool.not_false, true_and, and_true, and_self, List.append_assoc, List.nil_append, List.cons_append, Int.toNat_natCast, ck, Int.cast_ofNat_Int, Int.reduceToNat, bne_self_eq_false, Bool.or_false, Bool.false_or, Bool.false_and, Bool.and_false, Bool.or_true, Bool.true_or]
        simp (decide := true) only [eP, Tryz.f29, rid, kl29_4, dp29_1, dp29_6, ↓sBp, sBq, List.all_cons, List.all_nil, List.map_cons, List.map_nil, D.shape, Sh.sub, Sh.size, List.getElem?_cons_zero, List.getElem?_cons_succ, Option.bind_some, Option.bind_none, Option.getD_some, Option.getD_none, V.keysIn, V.kill, V.has, decide_eq_true_eq, beq_iff_eq, bne_iff_ne, ne_eq, Bool.not_eq_true', Bool.and_true, Bool.and_self, Bool.true_and, if_true, if_false, reduceIte, Bool.false_eq_true, decide_true, decide_false, beq_self_eq_true, Bool.not_true, Bool.not_false, true_and, and_true, and_self, List.append_assoc, List.nil_append, List.cons_append, Int.toNat_natCast, ck, Int.cast_ofNat_Int, Int.reduceToNat, bne_self_eq_false, Bool.or_false, Bool.false_or, Bool.false_and, Bool.and_false, Bool.or_true, Bool.true_or]
/-- The rounds, counted. -/
def anC (l : LP) (up : Int) : Nat → Nat → Nat
  | 0, i => i
  | f + 1, i => if blF (rdTo l up i) = 0 then i else anC l up f (i + 1)
theorem anC_ok (l : LP) (up : Int) : ∀ f i, i + f = 47 → (∀ j, j < i → ¬ (blF (rdTo l up j) = 0 ∨ j = 47)) → anC l up f i = anN l up
  | 0, i, h, hj => by
    obtain ⟨q1, q2, q3⟩ := anN_ok l up
    show i = _
    have h1 : ¬ anN l up < i := fun q => hj _ q q2
    omega
  | f + 1, i, h, hj => by
    obtain ⟨q1, q2, q3⟩ := anN_ok l up
    have h1 : ¬ anN l up < i := fun q => hj _ q q2
    unfold anC
    split
    · rename_i hz
      have h2 : ¬ i < anN l up := fun q => q3 i q (Or.inl hz)
      omega
    · rename_i hz
      refine anC_ok l up f (i + 1) (by omega) fun j hj' => ?_
      by_cases e : j = i
      · subst e
        rintro (q | q)
        · exact hz q
        · omega
      · exact hj j (by omega)
def anewK (l : LP) : LP := finF l (rdTo l (nb l.k.up) (anC l (nb l.k.up) 47 0 + 1))
theorem anewF_eq (l : LP) : anewF l = anewK l := by
  unfold anewF anewK lastF
  rw [anC_ok l _ 47 0 rfl (fun j hj => by omega)]
def upK (l : LP) (n cost : Int) : LP := if upO l n cost = true then anewK (upG l n cost) else l
def downK (l : LP) (n : Int) : LP := if has (nb l.k.up) n = true then anewK (dnG l n) else l
def costK (l : LP) (n cost : Int) : LP := if (has (nb l.k.up) n && costOk n cost) = true then anewK (coG l n cost) else l
def heardK (l : LP) (n : Int) (its : List Itm) : LP := if has (nb l.k.up) n = true then anewK (hrG l n its) else l
theorem upF_eq (l : LP) (n cost : Int) : upF l n cost = upK l n cost := by unfold upF upK; rw [anewF_eq]
theorem downF_eq (l : LP) (n : Int) : downF l n = downK l n := by unfold downF downK; rw [anewF_eq]
theorem costF_eq (l : LP) (n cost : Int) : costF l n cost = costK l n cost := by unfold costF costK; rw [anewF_eq]
theorem heardF_eq (l : LP) (n : Int) (its : List Itm) : heardF l n its = heardK l n its := by unfold heardF heardK; rw [anewF_eq]
def w1L : LP := upK (newF 0) 1 5
def w2L : LP := upK w1L 2 1
def w3L : LP := heardK w2L 1 [⟨1, 0, 0, -1⟩, ⟨3, 0, 4, 1⟩]
def wL : LP := heardK w3L 2 [⟨2, 0, 0, -1⟩, ⟨3, 0, 12, 2⟩]
def aL : LP := drainF wL 1
def bL : LP := heardK aL 1 [⟨3, 0, 4294967295, -1⟩]
def cL : LP := heardK bL 1 [⟨3, 2, 4294967295, -1⟩]
def dL : LP := heardK cL 2 [⟨3, 2, 12, 2⟩]
def kL : LP := downK wL 1
def mL : LP := costK wL 1 9
end Go.Proofs.YtjceimcepogkaaaGreatDoor.Ev
/- The closed run of the laws of lpa. -/
namespace Go.Proofs.YtjceimcepogkaaaGreatDoor.Ev
open Go
attribute [local congr] ob_congr sq_congr cd_congr ite_congr1 iter_congr it1_congr jumps_congr
set_option maxRecDepth 100000
set_option linter.unusedSimpArgs false
set_option linter.unusedVariables false
theorem fWalk : wL.r.d 3 = 9 ∧ wL.r.p 3 = 1 ∧ wL.r.n 3 = 1 ∧ wL.least 3 = 9 := ⟨by kernel_rfl, by kernel_rfl, by kernel_rfl, by kernel_rfl⟩
theorem fOut : (drainI wL 1).length = 4 := by kernel_rfl
theorem fPend : has (dueF aL) 1 = false := by kernel_rfl
theorem fB : lnE aL 1 = 0 ∧ bL.act = 8 ∧ bL.r.d 3 = 4294967295 ∧ bL.ask 1 = 8 ∧ bL.ask 2 = 8 := ⟨by kernel_rfl, by kernel_rfl, by kernel_rfl, by kernel_rfl, by kernel_rfl⟩
theorem fC : lnE bL 1 = 0 ∧ cL.act = 8 := ⟨by kernel_rfl, by kernel_rfl⟩
theorem fD : lnE cL 2 = 0 ∧ dL.act = 0 ∧ dL.r.d 3 = 13 ∧ dL.r.p 3 = 2 ∧ dL.r.n 3 = 2 ∧ dL.least 3 = 13 := ⟨by kernel_rfl, by kernel_rfl, by kernel_rfl, by kernel_rfl, by kernel_rfl, by kernel_rfl⟩
theorem fE : upE wL 1 5 = 10 ∧ lnE wL 3 = 9 ∧ lnE wL 1 = 0 ∧ coE wL 1 9 = 0 ∧ upE wL 0 5 = 1 := ⟨by kernel_rfl, by kernel_rfl, by kernel_rfl, by kernel_rfl, by kernel_rfl⟩
theorem fK : kL.act = 8 ∧ mL.r.d 1 = 9 := ⟨by kernel_rfl, by kernel_rfl⟩
theorem fS1 : evF Tryz.prog env xt 28 29 [.d (lpD bL)] = some (.d (.s (.bool (true)))) := by kernel_rfl
theorem fS2 : evF Tryz.prog env xt 28 29 [.d (lpD dL)] = some (.d (.s (.bool (true)))) := by kernel_rfl
section
variable {orc : Value → Option (List Itm)}
theorem hheard_sl (K : Nat) (l : LP) (n : Int) (its : List Itm) (hl : its.length < 1000000) : evF Tryz.prog env (xo orc) (K+1) 22 [.d (lpD l), .d (.s (.int .i64 (n))), .sl .ro shI (itms its)] = some (.tcons (.d (lpD (heardF l n its))) (.tcons (.d (.s (.int .i64 (lnE l n)))) .tnil)) := by
  have hx : xo orc 22 [.d (lpD l), .d (.s (.int .i64 (n))), .sl .ro shI (itms its)] = heardX xt 20 [.d (lpD l), .d (.s (.int .i64 (n))), .sl .ro shI (itms its)] := by
    unfold xo
    rfl
  have e : xo orc 22 [.d (lpD l), .d (.s (.int .i64 (n))), .sl .ro shI (itms its)] = some (.tcons (.d (lpD (heardF l n its))) (.tcons (.d (.s (.int .i64 (lnE l n)))) .tnil)) := by
    rw [hx]
    exact heard_ev 12 l n its hl
  simp only [evF, e]
theorem zItem : Z66 = itD 0 0 0 0 := nr rfl
theorem walked_ev (K : Nat) : evF Tryz.prog env (xo orc) (K+10) 24 [] = some (.d (lpD wL)) := by
  rw [evF_eq Tryz.func24 (show Tryz.f24.body = some _ from rfl) rfl rfl rfl (by show 0 ≤ 30; decide)]
  have e0 : evF Tryz.prog env (xo orc) (K+9) 6 [.d (.s (.int .i64 (0)))] = some (.d (lpD (newF 0))) := up_o (lpNew_ev (K+5) 0)
  have e1 : evF Tryz.prog env (xo orc) (K+9) 20 [.d (lpD (newF 0)), .d (.s (.int .i64 (1))), .d (.s (.int .u32 (5)))] = some (.tcons (.d (lpD w1L)) (.tcons (.d (.s (.int .i64 (upE (newF 0) 1 5)))) .tnil)) := by
    have := up_o (orc := orc) (lpUp_ev K (newF 0) 1 5)
    rw [upF_eq] at this
    exact this
  have e2 : evF Tryz.prog env (xo orc) (K+9) 20 [.d (lpD w1L), .d (.s (.int .i64 (2))), .d (.s (.int .u32 (1)))] = some (.tcons (.d (lpD w2L)) (.tcons (.d (.s (.int .i64 (upE w1L 2 1)))) .tnil)) := by
    have := up_o (orc := orc) (lpUp_ev K w1L 2 1)
    rw [upF_eq] at this
    exact this
  have e3 : evF Tryz.prog env (xo orc) (K+9) 22 [.d (lpD w2L), .d (.s (.int .i64 (1))), .sl .ro shI [itD 1 0 0 (-1), itD 3 0 4 1]] = some (.tcons (.d (lpD w3L)) (.tcons (.d (.s (.int .i64 (lnE w2L 1)))) .tnil)) := by
    have := hheard_sl (orc := orc) (K+8) w2L 1 [⟨1, 0, 0, -1⟩, ⟨3, 0, 4, 1⟩] (by decide)
    rw [heardF_eq] at this
    exact this
  have e4 : evF Tryz.prog env (xo orc) (K+9) 22 [.d (lpD w3L), .d (.s (.int .i64 (2))), .sl .ro shI [itD 2 0 0 (-1), itD 3 0 12 2]] = some (.tcons (.d (lpD wL)) (.tcons (.d (.s (.int .i64 (lnE w3L 2)))) .tnil)) := by
    have := hheard_sl (orc := orc) (K+8) w3L 2 [⟨2, 0, 0, -1⟩, ⟨3, 0, 12, 2⟩] (by decide)
    rw [heardF_eq] at this
    exact this
  have r2 : ∀ z x y : D, (((List.replicate 2 z).set 0 x).set 1 y) = [x, y] := fun _ _ _ => rfl
  generalize newF 0 = l0 at e0 e1
  generalize w1L = l1 at e1 e2
  generalize w2L = l2 at e2 e3
  generalize w3L = l3 at e3 e4
  generalize upE l0 1 5 = x1 at e1
  generalize upE l1 2 1 = x2 at e2
  generalize lnE l2 1 = x3 at e3
  generalize lnE l3 2 = x4 at e4
  simp (decide := true) only [e0, e1, e2, zItem, r2, e3, e4, Tryz.f24, rid, ↓sBp, sBq, List.all_cons, List.all_nil, List.map_cons, List.map_nil, D.shape, Sh.sub, Sh.size, List.getElem?_cons_zero, List.getElem?_cons_succ, Option.bind_some, Option.bind_none, Option.getD_some, Option.getD_none, V.keysIn, V.kill, V.has, decide_eq_true_eq, beq_iff_eq, bne_iff_ne, ne_eq, Bool.not_eq_true', Bool.and_true, Bool.and_self, Bool.true_and, if_true, if_false, reduceIte, Bool.false_eq_true, decide_true, decide_false, beq_self_eq_true, Bool.not_true, Bool.not_false, true_and, and_true, and_self, List.append_assoc, List.nil_append, List.cons_append, Int.toNat_natCast, ck, Int.cast_ofNat_Int, Int.reduceToNat, bne_self_eq_false, Bool.or_false, Bool.false_or, Bool.false_and, Bool.and_false, Bool.or_true, Bool.true_or]
theorem ifar_ev (K : Nat) (j k : Int) : evF Tryz.prog env (xo orc) (K+1) 25 [.d (.s (.int .i64 (j))), .d (.s (.int .i64 (k)))] = some (.d (itD j k 4294967295 (-1))) := by
  rw [evF_eq Tryz.func25 (show Tryz.f25.body = some _ from rfl) rfl rfl rfl (by show 2 ≤ 8; decide)]
  simp (decide := true) only [zItem, Tryz.f25, rid, ↓sBp, sBq, List.all_cons, List.all_nil, List.map_cons, List.map_nil, D.shape, Sh.sub, Sh.size, List.getElem?_cons_zero, List.getElem?_cons_succ, Option.bind_some, Option.bind_none, Option.getD_some, Option.getD_none, V.keysIn, V.kill, V.has, decide_eq_true_eq, beq_iff_eq, bne_iff_ne, ne_eq, Bool.not_eq_true', Bool.and_true, Bool.and_self, Bool.true_and, if_true, if_false, reduceIte, Bool.false_eq_true, decide_true, decide_false, beq_self_eq_true, Bool.not_true, Bool.not_false, true_and, and_true, and_self, List.append_assoc, List.nil_append, List.cons_append, Int.toNat_natCast, ck, Int.cast_ofNat_Int, Int.reduceToNat, bne_self_eq_false, Bool.or_false, Bool.false_or, Bool.false_and, Bool.and_false, Bool.or_true, Bool.true_or]
theorem passive_ev (K : Nat) (l : LP) : evF Tryz.prog env (xo orc) (K+1) 23 [.d (lpD l)] = some (.d (.s (.bool (l.act == 0)))) := by
  rw [evF_eq Tryz.func23 (show Tryz.f23.body = some _ from rfl) rfl rfl rfl (by show 1 ≤ 7; decide)]
  simp (decide := true) only [Tryz.f23, rid, ↓sBp, sBq, List.all_cons, List.all_nil, List.map_cons, List.map_nil, D.shape, Sh.sub, Sh.size, List.getElem?_cons_zero, List.getElem?_cons_succ, Option.bind_some, Option.bind_none, Option.getD_some, Option.getD_none, V.keysIn, V.kill, V.has, decide_eq_true_eq, beq_iff_eq, bne_iff_ne, ne_eq, Bool.not_eq_true', Bool.and_true, Bool.and_self, Bool.true_and, if_true, if_false, reduceIte, Bool.false_eq_true, decide_true, decide_false, beq_self_eq_true, Bool.not_true, Bool.not_false, true_and, and_true, and_self, List.append_assoc, List.nil_append, List.cons_append, Int.toNat_natCast, ck, Int.cast_ofNat_Int, Int.reduceToNat, bne_self_eq_false, Bool.or_false, Bool.false_or, Bool.false_and, Bool.and_false, Bool.or_true, Bool.true_or]
end
end Go.Proofs.YtjceimcepogkaaaGreatDoor.Ev
/- The closed run of the laws of lpa, put together. -/
namespace Go.Proofs.YtjceimcepogkaaaGreatDoor.Ev
open Go
attribute [local congr] ob_congr sq_congr cd_congr ite_congr1 iter_congr it1_congr jumps_congr
set_option maxRecDepth 100000
set_option linter.unusedSimpArgs false
set_option linter.unusedVariables false
theorem app_nil {α : Type} (m : List α) : List.append [] m = m := nr rfl
theorem app_cons {α : Type} (a : α) (l m : List α) : List.append (a :: l) m = a :: List.append l m := nr rfl
section
variable {orc : Value → Option (List Itm)}
theorem rowEq (a b c x y z : Int) : (D.cons (.s (.int .u32 a)) (.cons (.s (.int .i64 b)) (.cons (.s (.int .i64 c)) .nil))).eqv (.cons (.s (.int .u32 x)) (.cons (.s (.int .i64 y)) (.cons (.s (.int .i64 z)) .nil))) = ((a == x) && ((b == y) && ((c == z) && true))) := nr rfl
set_option maxHeartbeats 8000000 in
theorem awake31_ev : evF Tryz.prog env (xo orc) (29) 5 [] = some (.d (.s (.bool (true)))) := by
  rw [evF_eq Tryz.func5 (show Tryz.f5.body = some _ from rfl) rfl rfl rfl (by show 0 ≤ 194; decide)]
  have e1 := walked_ev (orc := orc) 18
  have e2 : evF Tryz.prog env (xo orc) (28) 21 [.d (lpD wL), .d (.s (.int .i64 (1)))] = some (.tcons (.d (lpD aL)) (.tcons (.sl .ro shI (drainI wL 1)) .tnil)) := up_o (drain_ev 22 wL 1)
  have e3 : evF Tryz.prog env (xo orc) (28) 22 [.d (lpD aL), .d (.s (.int .i64 (1))), .sl .ro shI [itD 3 0 4294967295 (-1)]] = some (.tcons (.d (lpD bL)) (.tcons (.d (.s (.int .i64 (lnE aL 1)))) .tnil)) := by
    have := hheard_sl (orc := orc) 27 aL 1 [⟨3, 0, 4294967295, -1⟩] (by decide)
    rw [heardF_eq] at this
    exact this
  have e4 : evF Tryz.prog env (xo orc) (28) 22 [.d (lpD bL), .d (.s (.int .i64 (1))), .sl .ro shI [itD 3 2 4294967295 (-1)]] = some (.tcons (.d (lpD cL)) (.tcons (.d (.s (.int .i64 (lnE bL 1)))) .tnil)) := by
    have := hheard_sl (orc := orc) 27 bL 1 [⟨3, 2, 4294967295, -1⟩] (by decide)
    rw [heardF_eq] at this
    exact this
  have e5 : evF Tryz.prog env (xo orc) (28) 22 [.d (lpD cL), .d (.s (.int .i64 (2))), .sl .ro shI [itD 3 2 12 2]] = some (.tcons (.d (lpD dL)) (.tcons (.d (.s (.int .i64 (lnE cL 2)))) .tnil)) := by
    have := hheard_sl (orc := orc) 27 cL 2 [⟨3, 2, 12, 2⟩] (by decide)
    rw [heardF_eq] at this
    exact this
  have e6 : evF Tryz.prog env (xo orc) (28) 20 [.d (lpD wL), .d (.s (.int .i64 (1))), .d (.s (.int .u32 (5)))] = some (.tcons (.d (lpD (upF wL 1 5))) (.tcons (.d (.s (.int .i64 (upE wL 1 5)))) .tnil)) := up_o (lpUp_ev 19 wL 1 5)
  have e7 : evF Tryz.prog env (xo orc) (28) 26 [.d (lpD wL), .d (.s (.int .i64 (3)))] = some (.tcons (.d (lpD (downF wL 3))) (.tcons (.d (.s (.int .i64 (lnE wL 3)))) .tnil)) := up_o (lpDown_ev 19 wL 3)
  have e8 : evF Tryz.prog env (xo orc) (28) 26 [.d (lpD wL), .d (.s (.int .i64 (1)))] = some (.tcons (.d (lpD kL)) (.tcons (.d (.s (.int .i64 (lnE wL 1)))) .tnil)) := by
    have := up_o (orc := orc) (lpDown_ev 19 wL 1)
    rw [downF_eq] at this
    exact this
  have e9 : evF Tryz.prog env (xo orc) (28) 27 [.d (lpD wL), .d (.s (.int .i64 (1))), .d (.s (.int .u32 (9)))] = some (.tcons (.d (lpD mL)) (.tcons (.d (.s (.int .i64 (coE wL 1 9)))) .tnil)) := by
    have := up_o (orc := orc) (lpCost_ev 19 wL 1 9)
    rw [costF_eq] at this
    exact this
  have e10 : evF Tryz.prog env (xo orc) (28) 20 [.d (lpD wL), .d (.s (.int .i64 (0))), .d (.s (.int .u32 (5)))] = some (.tcons (.d (lpD (upF wL 0 5))) (.tcons (.d (.s (.int .i64 (upE wL 0 5)))) .tnil)) := up_o (lpUp_ev 19 wL 0 5)
  have e11 : evF Tryz.prog env (xo orc) (28) 28 [.d (lpD aL), .d (.s (.int .i64 (1)))] = some (.d (.s (.bool (has (dueF aL) 1)))) := up_o (pending_ev 23 aL 1)
  have e12 : evF Tryz.prog env (xo orc) (28) 29 [.d (lpD bL)] = some (.d (.s (.bool (true)))) := up_o fS1
  have e13 : evF Tryz.prog env (xo orc) (28) 29 [.d (lpD dL)] = some (.d (.s (.bool (true)))) := up_o fS2
  rw [fPend] at e11
  have r1 : ∀ z x : D, ((List.replicate 1 z).set 0 x) = [x] := fun _ _ => rfl
  obtain ⟨a1, a2, a3, a4⟩ := fWalk
  have a5 := fOut
  obtain ⟨b1, b2, b3, b4, b5⟩ := fB
  obtain ⟨c1, c2⟩ := fC
  obtain ⟨d1, d2, d3, d4, d5, d6⟩ := fD
  obtain ⟨g1, g2, g3, g4, g5⟩ := fE
  obtain ⟨k1, k2⟩ := fK
  rw [b1] at e3
  rw [c1] at e4
  rw [d1] at e5
  rw [g1] at e6
  rw [g2] at e7
  rw [g3] at e8
  rw [g4] at e9
  rw [g5] at e10
  have hp := passive_ev (orc := orc) 27 dL
  rw [d2] at hp
  generalize wL = w at e1 e2 e6 e7 e8 e9 e10 a1 a2 a3 a4 a5
  generalize drainI w 1 = out at e2 a5
  generalize upF w 1 5 = u1 at e6
  generalize upF w 0 5 = u2 at e10
  generalize downF w 3 = u3 at e7
  generalize aL = a at e2 e3 e11
  generalize bL = b at e3 e4 e12 b2 b3 b4 b5
  generalize cL = c at e4 e5 c2
  generalize dL = d at e5 e13 d2 d3 d4 d5 d6 hp
  generalize kL = kk at e8 k1
  generalize mL = mm at e9 k2
  have a5' : ((out.length : Int) == 4) = true := by rw [a5]; rfl
  simp (decide := true) only [app_nil, app_cons, e1, e2, ifar_ev, r1, zItem, e3, e4, e5, e6, e7, e8, e9, e10, e11, e12, e13, hp, rowEq, a1, a2, a3, a4, a5', b2, b3, b4, b5, c2, d3, d4, d5, d6, k1, k2, Tryz.f5, rid, dp5_3, dp5_4, ↓sBp, sBq, List.all_cons, List.all_nil, List.map_cons, List.map_nil, D.shape, Sh.sub, Sh.size, List.getElem?_cons_zero, List.getElem?_cons_succ, Option.bind_some, Option.bind_none, Option.getD_some, Option.getD_none, V.keysIn, V.kill, V.has, decide_eq_true_eq, beq_iff_eq, bne_iff_ne, ne_eq, Bool.not_eq_true', Bool.and_true, Bool.and_self, Bool.true_and, if_true, if_false, reduceIte, Bool.false_eq_true, decide_true, decide_false, beq_self_eq_true, Bool.not_true, Bool.not_false, true_and, and_true, and_self, List.append_assoc, List.nil_append, List.cons_append, Int.toNat_natCast, ck, Int.cast_ofNat_Int, Int.reduceToNat, bne_self_eq_false, Bool.or_false, Bool.false_or, Bool.false_and, Bool.and_false, Bool.or_true, Bool.true_or]
end
end Go.Proofs.YtjceimcepogkaaaGreatDoor.Ev
