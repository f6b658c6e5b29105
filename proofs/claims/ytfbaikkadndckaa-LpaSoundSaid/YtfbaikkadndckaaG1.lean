/- The closed run of the laws of lpa, by what its functions compute; lpa.Sound. -/
import Derived.Test.YtfbaikkadndckaaLv
namespace Go.Proofs.Ytfbaikkadndckaa.Ev
open Go
attribute [local congr] ob_congr sq_congr cd_congr ite_congr1 iter_congr it1_congr jumps_congr
set_option maxRecDepth 100000
set_option linter.unusedSimpArgs false
set_option linter.unusedVariables false
/-- A node that is sound. -/
def badR (l : LP) (j : Nat) : Bool := decide (l.r.d j < l.least j) || (has l.act j && (l.r.d j != 4294967295))
noncomputable def sndB (l : LP) : Bool := soundF (cut l.r.d) (cut l.r.p) l.k.self && ((blkF l.k l.r.n l.least == 0) && (!((List.range 16).any (badR l)) && (rdD l.act l.wait == 0)))
set_option maxHeartbeats 2000000 in
theorem lpSound_ev (K : Nat) (l : LP) : evF Try.prog env xt (K+7) 77 [.d (lpD l)] = some (.d (.s (.bool (sndB l)))) := by
  rw [evF_eq Try.func77 (show Try.f77.body = some _ from rfl) rfl rfl (by show 1 ≤ 51; decide)]
  have eT := tree_ev (K+5) l.r.d l.r.p l.r.n
  have eS := sound_ev K (cut l.r.d) (cut l.r.p) l.k.self
  have eB : evF Try.prog env xt (K+6) 24 [.d (knD l.k.self l.k.up l.k.c l.k.tD l.k.tP), .d (rowsD l.r.d l.r.p l.r.n), .d (arrU l.least)] = some (.d (.s (.int .i64 (blkF l.k l.r.n l.least)))) := blocked_ev (K+2) l.k.self l.k.up l.k.c l.k.tD l.k.tP l.r.d l.r.p l.r.n l.least
  have eP := rdD_ev l.act l.wait (K+2)
  have es : sndB l = (soundF (cut l.r.d) (cut l.r.p) l.k.self && ((blkF l.k l.r.n l.least == 0) && (!((List.range 16).any (badR l)) && (rdD l.act l.wait == 0)))) := rfl
  generalize soundF (cut l.r.d) (cut l.r.p) l.k.self = b1 at eS es
  generalize blkF l.k l.r.n l.least = b2 at eB es
  generalize rdD l.act l.wait = b3 at eP es
  rw [es]
  cases b1 with
  | false => simp (decide := true) only [eT, eS, Try.f77, rid, kl77_4, dp77_1, dp77_6, ↓sBp, sBq, List.all_cons, List.all_nil, List.map_cons, List.map_nil, D.shape, Sh.sub, Sh.size, List.getElem?_cons_zero, List.getElem?_cons_succ, Option.bind_some, Option.bind_none, Option.getD_some, Option.getD_none, V.keysIn, V.kill, V.has, decide_eq_true_eq, beq_iff_eq, bne_iff_ne, ne_eq, Bool.not_eq_true', Bool.and_true, Bool.and_self, Bool.true_and, if_true, if_false, reduceIte, Bool.false_eq_true, decide_true, decide_false, beq_self_eq_true, Bool.not_true, Bool.not_false, true_and, and_true, and_self, List.append_assoc, List.nil_append, List.cons_append, Int.toNat_natCast, ck, Int.cast_ofNat_Int, Int.reduceToNat, bne_self_eq_false, Bool.or_false, Bool.false_or, Bool.false_and, Bool.and_false, Bool.or_true, Bool.true_or]
  | true =>
    rcases Bool.eq_false_or_eq_true (b2 != 0) with h2 | h2
    · have h2' : (b2 == 0) = false := by simpa [bne] using h2
      simp (decide := true) only [eT, eS, eB, h2, h2', Try.f77, rid, kl77_4, dp77_1, dp77_6, ↓sBp, sBq, List.all_cons, List.all_nil, List.map_cons, List.map_nil, D.shape, Sh.sub, Sh.size, List.getElem?_cons_zero, List.getElem?_cons_succ, Option.bind_some, Option.bind_none, Option.getD_some, Option.getD_none, V.keysIn, V.kill, V.has, decide_eq_true_eq, beq_iff_eq, bne_iff_ne, ne_eq, Bool.not_eq_true', Bool.and_true, Bool.and_self, Bool.true_and, if_true, if_false, reduceIte, Bool.false_eq_true, decide_true, decide_false, beq_self_eq_true, Bool.not_true, Bool.not_false, true_and, and_true, and_self, List.append_assoc, List.nil_append, List.cons_append, Int.toNat_natCast, ck, Int.cast_ofNat_Int, Int.reduceToNat, bne_self_eq_false, Bool.or_false, Bool.false_or, Bool.false_and, Bool.and_false, Bool.or_true, Bool.true_or]
    · have h2' : (b2 == 0) = true := by simpa [bne] using h2
      by_cases hx : ∃ j, j < 16 ∧ badR l j = true
      · obtain ⟨N, hN, hN2, hN3⟩ := first_of hx
        have ha : ((List.range 16).any (badR l)) = true := List.any_eq_true.2 ⟨N, by simpa using hN, hN2⟩
        rw [ha]
        simp (decide := true) only [eT, eS, eB, h2, h2', Try.f77, rid, kl77_4, dp77_1, dp77_6, ↓sBp, sBq, List.all_cons, List.all_nil, List.map_cons, List.map_nil, D.shape, Sh.sub, Sh.size, List.getElem?_cons_zero, List.getElem?_cons_succ, Option.bind_some, Option.bind_none, Option.getD_some, Option.getD_none, V.keysIn, V.kill, V.has, decide_eq_true_eq, beq_iff_eq, bne_iff_ne, ne_eq, Bool.not_eq_true', Bool.and_true, Bool.and_self, Bool.true_and, if_true, if_false, reduceIte, Bool.false_eq_true, decide_true, decide_false, beq_self_eq_true, Bool.not_true, Bool.not_false, true_and, and_true, and_self, List.append_assoc, List.nil_append, List.cons_append, Int.toNat_natCast, ck, Int.cast_ofNat_Int, Int.reduceToNat, bne_self_eq_false, Bool.or_false, Bool.false_or, Bool.false_and, Bool.and_false, Bool.or_true, Bool.true_or]
        rw [iter_run (S := fun k => ⟨tab .junk [(1, .ptr 1 (shL) [] (shL)), (24, .d (rowsD l.r.d l.r.p l.r.n)), (25, .d (.s (.int .i64 (k))))], tab none [(1, some (.box (lpD l)))]⟩) (n := N) (h0 := ?h0) (hn := ?hn) (step := ?step)]
        case h0 => rfl
        case hn => exact lt_loopFuel (by omega)
        case step =>
          intro k hk
          have hk1 : (k : Int) < 16 := by omega
          have hk0 : (0 : Int) ≤ k := by omega
          have hkw := wrap_succ k (by omega)
          have hb := hN3 k hk
          unfold badR at hb
          simp only [Bool.or_eq_true, decide_eq_true_eq, Bool.and_eq_true, not_or, not_and, Bool.not_eq_true] at hb
          obtain ⟨hb1, hb2⟩ := hb
          rcases Bool.eq_false_or_eq_true (has l.act k) with h3 | h3
          · have h4 := hb2 h3
            simp (decide := true) only [hk1, hk0, hkw, hb1, has_ev, h3, h4, Try.f77, rid, kl77_4, dp77_1, dp77_6, ↓sBp, sBq, List.all_cons, List.all_nil, List.map_cons, List.map_nil, D.shape, Sh.sub, Sh.size, List.getElem?_cons_zero, List.getElem?_cons_succ, Option.bind_some, Option.bind_none, Option.getD_some, Option.getD_none, V.keysIn, V.kill, V.has, decide_eq_true_eq, beq_iff_eq, bne_iff_ne, ne_eq, Bool.not_eq_true', Bool.and_true, Bool.and_self, Bool.true_and, if_true, if_false, reduceIte, Bool.false_eq_true, decide_true, decide_false, beq_self_eq_true, Bool.not_true, Bool.not_false, true_and, and_true, and_self, List.append_assoc, List.nil_append, List.cons_append, Int.toNat_natCast, ck, Int.cast_ofNat_Int, Int.reduceToNat, bne_self_eq_false, Bool.or_false, Bool.false_or, Bool.false_and, Bool.and_false, Bool.or_true, Bool.true_or]
          · simp (decide := true) only [hk1, hk0, hkw, hb1, has_ev, h3, Try.f77, rid, kl77_4, dp77_1, dp77_6, ↓sBp, sBq, List.all_cons, List.all_nil, List.map_cons, List.map_nil, D.shape, Sh.sub, Sh.size, List.getElem?_cons_zero, List.getElem?_cons_succ, Option.bind_some, Option.bind_none, Option.getD_some, Option.getD_none, V.keysIn, V.kill, V.has, decide_eq_true_eq, beq_iff_eq, bne_iff_ne, ne_eq, Bool.not_eq_true', Bool.and_true, Bool.and_self, Bool.true_and, if_true, if_false, reduceIte, Bool.false_eq_true, decide_true, decide_false, beq_self_eq_true, Bool.not_true, Bool.not_false, true_and, and_true, and_self, List.append_assoc, List.nil_append, List.cons_append, Int.toNat_natCast, ck, Int.cast_ofNat_Int, Int.reduceToNat, bne_self_eq_false, Bool.or_false, Bool.false_or, Bool.false_and, Bool.and_false, Bool.or_true, Bool.true_or]
        have hk1 : (N : Int) < 16 := by omega
        have hk0 : (0 : Int) ≤ N := by omega
        unfold badR at hN2
        by_cases hb1 : l.r.d N < l.least N
        · simp (decide := true) only [hk1, hk0, hb1, Try.f77, rid, kl77_4, dp77_1, dp77_6, ↓sBp, sBq, List.all_cons, List.all_nil, List.map_cons, List.map_nil, D.shape, Sh.sub, Sh.size, List.getElem?_cons_zero, List.getElem?_cons_succ, Option.bind_some, Option.bind_none, Option.getD_some, Option.getD_none, V.keysIn, V.kill, V.has, decide_eq_true_eq, beq_iff_eq, bne_iff_ne, ne_eq, Bool.not_eq_true', Bool.and_true, Bool.and_self, Bool.true_and, if_true, if_false, reduceIte, Bool.false_eq_true, decide_true, decide_false, beq_self_eq_true, Bool.not_true, Bool.not_false, true_and, and_true, and_self, List.append_assoc, List.nil_append, List.cons_append, Int.toNat_natCast, ck, Int.cast_ofNat_Int, Int.reduceToNat, bne_self_eq_false, Bool.or_false, Bool.false_or, Bool.false_and, Bool.and_false, Bool.or_true, Bool.true_or]
        · rw [decide_eq_false hb1, Bool.false_or, Bool.and_eq_true] at hN2
          obtain ⟨h3, h4⟩ := hN2
          simp (decide := true) only [hk1, hk0, hb1, has_ev, h3, h4, Try.f77, rid, kl77_4, dp77_1, dp77_6, ↓sBp, sBq, List.all_cons, List.all_nil, List.map_cons, List.map_nil, D.shape, Sh.sub, Sh.size, List.getElem?_cons_zero, List.getElem?_cons_succ, Option.bind_some, Option.bind_none, Option.getD_some, Option.getD_none, V.keysIn, V.kill, V.has, decide_eq_true_eq, beq_iff_eq, bne_iff_ne, ne_eq, Bool.not_eq_true', Bool.and_true, Bool.and_self, Bool.true_and, if_true, if_false, reduceIte, Bool.false_eq_true, decide_true, decide_false, beq_self_eq_true, Bool.not_true, Bool.not_false, true_and, and_true, and_self, List.append_assoc, List.nil_append, List.cons_append, Int.toNat_natCast, ck, Int.cast_ofNat_Int, Int.reduceToNat, bne_self_eq_false, Bool.or_false, Bool.false_or, Bool.false_and, Bool.and_false, Bool.or_true, Bool.true_or]
      · have ha : ((List.range 16).any (badR l)) = false := by
          rw [List.any_eq_false]
          intro j hj q
          exact hx ⟨j, by simpa using hj, q⟩
        rw [ha]
        simp (decide := true) only [eT, eS, eB, h2, h2', Try.f77, rid, kl77_4, dp77_1, dp77_6, ↓sBp, sBq, List.all_cons, List.all_nil, List.map_cons, List.map_nil, D.shape, Sh.sub, Sh.size, List.getElem?_cons_zero, List.getElem?_cons_succ, Option.bind_some, Option.bind_none, Option.getD_some, Option.getD_none, V.keysIn, V.kill, V.has, decide_eq_true_eq, beq_iff_eq, bne_iff_ne, ne_eq, Bool.not_eq_true', Bool.and_true, Bool.and_self, Bool.true_and, if_true, if_false, reduceIte, Bool.false_eq_true, decide_true, decide_false, beq_self_eq_true, Bool.not_true, Bool.not_false, true_and, and_true, and_self, List.append_assoc, List.nil_append, List.cons_append, Int.toNat_natCast, ck, Int.cast_ofNat_Int, Int.reduceToNat, bne_self_eq_false, Bool.or_false, Bool.false_or, Bool.false_and, Bool.and_false, Bool.or_true, Bool.true_or]
        rw [iter_run (S := fun k => ⟨tab .junk [(1, .ptr 1 (shL) [] (shL)), (24, .d (rowsD l.r.d l.r.p l.r.n)), (25, .d (.s (.int .i64 (k))))], tab none [(1, some (.box (lpD l)))]⟩) (n := 16) (h0 := ?h0) (hn := lt_loopFuel (by decide)) (step := ?step)]
        case h0 => rfl
        case step =>
          intro k hk
          have hk1 : (k : Int) < 16 := by omega
          have hk0 : (0 : Int) ≤ k := by omega
          have hkw := wrap_succ k (by omega)
          have hb : ¬ badR l k = true := fun q => hx ⟨k, hk, q⟩
          unfold badR at hb
          simp only [Bool.or_eq_true, decide_eq_true_eq, Bool.and_eq_true, not_or, not_and, Bool.not_eq_true] at hb
          obtain ⟨hb1, hb2⟩ := hb
          rcases Bool.eq_false_or_eq_true (has l.act k) with h3 | h3
          · have h4 := hb2 h3
            simp (decide := true) only [hk1, hk0, hkw, hb1, has_ev, h3, h4, Try.f77, rid, kl77_4, dp77_1, dp77_6, ↓sBp, sBq, List.all_cons, List.all_nil, List.map_cons, List.map_nil, D.shape, Sh.sub, Sh.size, List.getElem?_cons_zero, List.getElem?_cons_succ, Option.bind_some, Option.bind_none, Option.getD_some, Option.getD_none, V.keysIn, V.kill, V.has, decide_eq_true_eq, beq_iff_eq, bne_iff_ne, ne_eq, Bool.not_eq_true', Bool.and_true, Bool.and_self, Bool.true_and, if_true, if_false, reduceIte, Bool.false_eq_true, decide_true, decide_false, beq_self_eq_true, Bool.not_true, Bool.not_false, true_and, and_true, and_self, List.append_assoc, List.nil_append, List.cons_append, Int.toNat_natCast, ck, Int.cast_ofNat_Int, Int.reduceToNat, bne_self_eq_false, Bool.or_false, Bool.false_or, Bool.false_and, Bool.and_false, Bool.or_true, Bool.true_or]
          · simp (decide := true) only [hk1, hk0, hkw, hb1, has_ev, h3, Try.f77, rid, kl77_4, dp77_1, dp77_6, ↓sBp, sBq, List.all_cons, List.all_nil, List.map_cons, List.map_nil, D.shape, Sh.sub, Sh.size, List.getElem?_cons_zero, List.getElem?_cons_succ, Option.bind_some, Option.bind_none, Option.getD_some, Option.getD_none, V.keysIn, V.kill, V.has, decide_eq_true_eq, beq_iff_eq, bne_iff_ne, ne_eq, Bool.not_eq_true', Bool.and_true, Bool.and_self, Bool.true_and, if_true, if_false, reduceIte, Bool.false_eq_true, decide_true, decide_false, beq_self_eq_true, Bool.not_true, Bool.not_false, true_and, and_true, and_self, List.append_assoc, List.nil_append, List.cons_append, Int.toNat_natCast, ck, Int.cast_ofNat_Int, Int.reduceToNat, bne_self_eq_false, Bool.or_false, Bool.false_or, Bool.false_and, Bool.and_false, Bool.or_true, Bool.true_or]
        simp (decide := true) only [eP, Try.f77, rid, kl77_4, dp77_1, dp77_6, ↓sBp, sBq, List.all_cons, List.all_nil, List.map_cons, List.map_nil, D.shape, Sh.sub, Sh.size, List.getElem?_cons_zero, List.getElem?_cons_succ, Option.bind_some, Option.bind_none, Option.getD_some, Option.getD_none, V.keysIn, V.kill, V.has, decide_eq_true_eq, beq_iff_eq, bne_iff_ne, ne_eq, Bool.not_eq_true', Bool.and_true, Bool.and_self, Bool.true_and, if_true, if_false, reduceIte, Bool.false_eq_true, decide_true, decide_false, beq_self_eq_true, Bool.not_true, Bool.not_false, true_and, and_true, and_self, List.append_assoc, List.nil_append, List.cons_append, Int.toNat_natCast, ck, Int.cast_ofNat_Int, Int.reduceToNat, bne_self_eq_false, Bool.or_false, Bool.false_or, Bool.false_and, Bool.and_false, Bool.or_true, Bool.true_or]
/-- The rounds, counted. -/
def anC (l : LP) (up : Int) : Nat → Nat → Nat
  | 0, i => i
  | f + 1, i => if blF (rdTo l up i) = 0 then i else anC l up f (i + 1)
theorem anC_ok (l : LP) (up : Int) : ∀ f i, i + f = 47 → (∀ j, j < i → ¬ (blF (rdTo l up j) = 0 ∨ j = 47)) → anC l up f i = anN l up
  | 0, i, h, hj => by
    obtain ⟨q1, q2, q3⟩ := anN_ok l up
    show i = _
    have h1 : ¬ anN l up < i := fun q => hj _ q q2
    omega
  | f + 1, i, h, hj => by
    obtain ⟨q1, q2, q3⟩ := anN_ok l up
    have h1 : ¬ anN l up < i := fun q => hj _ q q2
    unfold anC
    split
    · rename_i hz
      have h2 : ¬ i < anN l up := fun q => q3 i q (Or.inl hz)
      omega
    · rename_i hz
      refine anC_ok l up f (i + 1) (by omega) fun j hj' => ?_
      by_cases e : j = i
      · subst e
        rintro (q | q)
        · exact hz q
        · omega
      · exact hj j (by omega)
def anewK (l : LP) : LP := finF l (rdTo l (nb l.k.up) (anC l (nb l.k.up) 47 0 + 1))
theorem anewF_eq (l : LP) : anewF l = anewK l := by
  unfold anewF anewK lastF
  rw [anC_ok l _ 47 0 rfl (fun j hj => by omega)]
def upK (l : LP) (n cost : Int) : LP := if upO l n cost = true then anewK (upG l n cost) else l
def downK (l : LP) (n : Int) : LP := if has (nb l.k.up) n = true then anewK (dnG l n) else l
def costK (l : LP) (n cost : Int) : LP := if (has (nb l.k.up) n && costOk n cost) = true then anewK (coG l n cost) else l
def heardK (l : LP) (n : Int) (its : List Itm) : LP := if has (nb l.k.up) n = true then anewK (hrG l n its) else l
theorem upF_eq (l : LP) (n cost : Int) : upF l n cost = upK l n cost := by unfold upF upK; rw [anewF_eq]
theorem downF_eq (l : LP) (n : Int) : downF l n = downK l n := by unfold downF downK; rw [anewF_eq]
theorem costF_eq (l : LP) (n cost : Int) : costF l n cost = costK l n cost := by unfold costF costK; rw [anewF_eq]
theorem heardF_eq (l : LP) (n : Int) (its : List Itm) : heardF l n its = heardK l n its := by unfold heardF heardK; rw [anewF_eq]
def w1L : LP := upK (newF 0) 1 5
def w2L : LP := upK w1L 2 1
def w3L : LP := heardK w2L 1 [⟨1, 0, 0, -1⟩, ⟨3, 0, 4, 1⟩]
def wL : LP := heardK w3L 2 [⟨2, 0, 0, -1⟩, ⟨3, 0, 12, 2⟩]
def aL : LP := drainF wL 1
def bL : LP := heardK aL 1 [⟨3, 0, 4294967295, -1⟩]
def cL : LP := heardK bL 1 [⟨3, 2, 4294967295, -1⟩]
def dL : LP := heardK cL 2 [⟨3, 2, 12, 2⟩]
def kL : LP := downK wL 1
def mL : LP := costK wL 1 9
end Go.Proofs.Ytfbaikkadndckaa.Ev
