/- The law SettleWays, run. -/
import Derived.Test.YtfbaikkadndckaaXv
import Derived.Test.YtfbaikkadndckaaSf
namespace Go.Proofs.Ytfbaikkadndckaa.Ev
open Go
attribute [local congr] ob_congr sq_congr cd_congr ite_congr1 iter_congr it1_congr jumps_congr
set_option maxRecDepth 100000
set_option linter.unusedSimpArgs false
set_option linter.unusedVariables false
theorem awake27_ev : evF Try.prog env xt 29 19 [] = some (.d (.s (.bool (true)))) := by kernel_rfl
def remN (j : Int) : Int := IntKind.i64.wrap ((IntKind.u64.wrap j).tmod 16)
theorem settle_evw (K : Nat) (self up : Int) (c : Nat → Int) (tD tP : Nat → Nat → Int) (skip : Int) :
    evF Try.prog env xw (K+6) 15 [.d (knD self up c tD tP), .d (.s (.int .i64 (skip)))] = some (.d (rowsD (settleF ⟨self, up, c, tD, tP⟩ skip).d (settleF ⟨self, up, c, tD, tP⟩ skip).p (settleF ⟨self, up, c, tD, tP⟩ skip).n)) := up_w (settle_ev K self up c tD tP skip)
theorem awake27_evw : evF Try.prog env xw (29) 19 [] = some (.d (.s (.bool (true)))) := up_w awake27_ev
theorem way_eqv (a b : Int) : (D.cons (.s (.int .i64 a)) (.cons (.s (.int .u32 b)) .nil)).eqv (.cons (.s (.int .i64 a)) (.cons (.s (.int .u32 b)) .nil)) = true := by
  simp [D.eqv, veq]
set_option maxHeartbeats 4000000 in
theorem settleWays_ev (self up : Int) (c : Nat → Int) (tD tP : Nat → Nat → Int) (j skip m : Int) (hm : remN self = m) (r : Rw) (hr : settleF ⟨m, up, c, tD, tP⟩ skip = r)
    (h : ∀ d : Nat, d < 16 → (d : Int) ≠ m → r.d d ≠ 4294967295 → ∃ x l, wList ⟨m, up, c, tD, tP⟩ d = x :: l ∧ ¬ r.d d < x.2) :
    evF Try.prog env xw (30) 10 [.d (knD self up c tD tP), .d (.s (.int .i64 (j))), .d (.s (.int .i64 (skip)))] = some (.d (.s (.bool (true)))) := by
  rw [evF_eq Try.func10 (show Try.f10.body = some _ from rfl) rfl rfl (by show 3 ≤ 162; decide)]
  have hm' : IntKind.i64.wrap ((IntKind.u64.wrap self).tmod 16) = m := hm
  have h16 : (16 : Int) ≠ 0 := by decide
  have e1 := ways_ev 28 self up c tD tP j
  have e2 := rways_ev 28 self up c tD tP j
  have e3 := second_ev 27 self up c tD tP j
  have e4 := rsecond_ev 27 self up c tD tP j
  have hst := wList_strict ⟨self, up, c, tD, tP⟩ j
  have hlen := wList_len ⟨self, up, c, tD, tP⟩ j
  generalize wList ⟨self, up, c, tD, tP⟩ j = l at e1 e2 e3 e4 hst hlen
  have hws := ws_len' l
  simp (decide := true) only [e1, e2, e3, e4, only_ev, ronly_ev, way_eqv, Try.f10, rid, kl10_7, kl10_15, dp10_1, dp10_4, dp10_9, dp10_18, ↓sBp, sBq, List.all_cons, List.all_nil, List.map_cons, List.map_nil, D.shape, Sh.sub, Sh.size, List.getElem?_cons_zero, List.getElem?_cons_succ, Option.bind_some, Option.bind_none, Option.getD_some, Option.getD_none, V.keysIn, V.kill, V.has, decide_eq_true_eq, beq_iff_eq, bne_iff_ne, ne_eq, Bool.not_eq_true', Bool.and_true, Bool.and_self, Bool.true_and, if_true, if_false, reduceIte, Bool.false_eq_true, decide_true, decide_false, beq_self_eq_true, Bool.not_true, Bool.not_false, true_and, and_true, and_self, List.append_assoc, List.nil_append, List.cons_append, Int.toNat_natCast, ck, Int.cast_ofNat_Int, Int.reduceToNat, bne_self_eq_false, Bool.or_false, Bool.false_or, Bool.false_and, Bool.and_false, Bool.or_true, Bool.true_or]
  rw [iter_run (S := fun i => ⟨tab .junk [(2, .d (.s (.int .i64 (skip)))), (3, .ptr 3 (shK) [] (shK)), (7, .sl (.tg 19) shW (ws l)), (8, .sl (.tg 22) shW (ws l)), (58, .d (.s (.int .i64 (l.length)))), (59, .d (.s (.int .i64 (i))))], tab none [(3, some (.box (knD self up c tD tP))), (19, some .row), (22, some .row)]⟩) (n := l.length) (h0 := ?h0) (hn := ?hn) (step := ?step)]
  case h0 => rw [hws]; rfl
  case hn => exact lt_loopFuel (by omega)
  case step =>
    intro i hi
    have hi1 : (i : Int) < (l.length : Int) := by omega
    have hi0 : (0 : Int) ≤ i := by omega
    have hiw := wrap_succ i (by omega)
    have hget : ∀ q, q < l.length → (ws l)[q]? = some (wayD (l.getD q (0, 0)).1 (l.getD q (0, 0)).2) := fun q hq => by
      simp [List.getD, List.getElem?_eq_getElem hq]
    have hg := hget i hi
    by_cases hz : i = 0
    · have hi2 : ¬ (0 : Int) < (i : Int) := by omega
      simp (decide := true) only [hi1, hi0, hiw, hi2, hg, way_eqv, Try.f10, rid, kl10_7, kl10_15, dp10_1, dp10_4, dp10_9, dp10_18, ↓sBp, sBq, List.all_cons, List.all_nil, List.map_cons, List.map_nil, D.shape, Sh.sub, Sh.size, List.getElem?_cons_zero, List.getElem?_cons_succ, Option.bind_some, Option.bind_none, Option.getD_some, Option.getD_none, V.keysIn, V.kill, V.has, decide_eq_true_eq, beq_iff_eq, bne_iff_ne, ne_eq, Bool.not_eq_true', Bool.and_true, Bool.and_self, Bool.true_and, if_true, if_false, reduceIte, Bool.false_eq_true, decide_true, decide_false, beq_self_eq_true, Bool.not_true, Bool.not_false, true_and, and_true, and_self, List.append_assoc, List.nil_append, List.cons_append, Int.toNat_natCast, ck, Int.cast_ofNat_Int, Int.reduceToNat, bne_self_eq_false, Bool.or_false, Bool.false_or, Bool.false_and, Bool.and_false, Bool.or_true, Bool.true_or]
    · have hi2 : (0 : Int) < (i : Int) := by omega
      have hi3 : IntKind.i64.wrap ((i : Int) - 1) = ((i - 1 : Nat) : Int) := by rw [wrap_id (by omega)]; omega
      have hi4 : (0 : Int) ≤ ((i - 1 : Nat) : Int) := by omega
      have hg2 := hget (i - 1) (by omega)
      have hs : (l.getD (i - 1) (0, 0)).2 < (l.getD i (0, 0)).2 ∨ ((l.getD (i - 1) (0, 0)).2 = (l.getD i (0, 0)).2 ∧ (l.getD (i - 1) (0, 0)).1 < (l.getD i (0, 0)).1) := by
        have := List.pairwise_iff_getElem.1 hst (i - 1) i (by omega) hi (by omega)
        simpa [List.getD, List.getElem?_eq_getElem hi, List.getElem?_eq_getElem (show i - 1 < l.length by omega)] using this
      generalize l.getD i (0, 0) = a at hg hs
      generalize l.getD (i - 1) (0, 0) = b at hg2 hs
      have s1 : ¬ a.2 < b.2 := by omega
      by_cases hq : a.2 = b.2
      · have s2 : (a.2 == b.2) = true := by simpa using hq
        have s3 : ¬ a.1 ≤ b.1 := by omega
        simp (decide := true) only [hi1, hi0, hiw, hi2, hi3, hi4, hg, hg2, way_eqv, s1, s2, s3, Try.f10, rid, kl10_7, kl10_15, dp10_1, dp10_4, dp10_9, dp10_18, ↓sBp, sBq, List.all_cons, List.all_nil, List.map_cons, List.map_nil, D.shape, Sh.sub, Sh.size, List.getElem?_cons_zero, List.getElem?_cons_succ, Option.bind_some, Option.bind_none, Option.getD_some, Option.getD_none, V.keysIn, V.kill, V.has, decide_eq_true_eq, beq_iff_eq, bne_iff_ne, ne_eq, Bool.not_eq_true', Bool.and_true, Bool.and_self, Bool.true_and, if_true, if_false, reduceIte, Bool.false_eq_true, decide_true, decide_false, beq_self_eq_true, Bool.not_true, Bool.not_false, true_and, and_true, and_self, List.append_assoc, List.nil_append, List.cons_append, Int.toNat_natCast, ck, Int.cast_ofNat_Int, Int.reduceToNat, bne_self_eq_false, Bool.or_false, Bool.false_or, Bool.false_and, Bool.and_false, Bool.or_true, Bool.true_or]
      · have s2 : (a.2 == b.2) = false := by simpa using hq
        simp (decide := true) only [hi1, hi0, hiw, hi2, hi3, hi4, hg, hg2, way_eqv, s1, s2, Try.f10, rid, kl10_7, kl10_15, dp10_1, dp10_4, dp10_9, dp10_18, ↓sBp, sBq, List.all_cons, List.all_nil, List.map_cons, List.map_nil, D.shape, Sh.sub, Sh.size, List.getElem?_cons_zero, List.getElem?_cons_succ, Option.bind_some, Option.bind_none, Option.getD_some, Option.getD_none, V.keysIn, V.kill, V.has, decide_eq_true_eq, beq_iff_eq, bne_iff_ne, ne_eq, Bool.not_eq_true', Bool.and_true, Bool.and_self, Bool.true_and, if_true, if_false, reduceIte, Bool.false_eq_true, decide_true, decide_false, beq_self_eq_true, Bool.not_true, Bool.not_false, true_and, and_true, and_self, List.append_assoc, List.nil_append, List.cons_append, Int.toNat_natCast, ck, Int.cast_ofNat_Int, Int.reduceToNat, bne_self_eq_false, Bool.or_false, Bool.false_or, Bool.false_and, Bool.and_false, Bool.or_true, Bool.true_or]
  simp (decide := true) only [Int.lt_irrefl, hm', h16, settle_evw, hr, Try.f10, rid, kl10_7, kl10_15, dp10_1, dp10_4, dp10_9, dp10_18, ↓sBp, sBq, List.all_cons, List.all_nil, List.map_cons, List.map_nil, D.shape, Sh.sub, Sh.size, List.getElem?_cons_zero, List.getElem?_cons_succ, Option.bind_some, Option.bind_none, Option.getD_some, Option.getD_none, V.keysIn, V.kill, V.has, decide_eq_true_eq, beq_iff_eq, bne_iff_ne, ne_eq, Bool.not_eq_true', Bool.and_true, Bool.and_self, Bool.true_and, if_true, if_false, reduceIte, Bool.false_eq_true, decide_true, decide_false, beq_self_eq_true, Bool.not_true, Bool.not_false, true_and, and_true, and_self, List.append_assoc, List.nil_append, List.cons_append, Int.toNat_natCast, ck, Int.cast_ofNat_Int, Int.reduceToNat, bne_self_eq_false, Bool.or_false, Bool.false_or, Bool.false_and, Bool.and_false, Bool.or_true, Bool.true_or]
  rw [iter_run (S := fun k => ⟨tab .junk [(3, .ptr 3 (shK) [] (shK)), (14, .ptr 14 (shRs) [] (shRs)), (127, .d (.s (.int .i64 (k))))], tab none [(3, some (.box (knD m up c tD tP))), (14, some (.box (rowsD r.d r.p r.n)))]⟩) (n := 16) (h0 := ?h0) (hn := lt_loopFuel (by decide)) (step := ?step)]
  case h0 => rfl
  case step =>
    intro k hk
    have hk1 : (k : Int) < 16 := by omega
    have hk0 : (0 : Int) ≤ k := by omega
    have hkw := wrap_succ k (by omega)
    have e5 := ways_ev 28 m up c tD tP k
    have hh := h k hk
    generalize wList ⟨m, up, c, tD, tP⟩ k = l' at e5 hh
    by_cases q1 : (k : Int) = m
    · have q1' : ((k : Int) != m) = false := by simpa [bne] using q1
      simp (decide := true) only [hk1, hk0, hkw, e5, q1', Try.f10, rid, kl10_7, kl10_15, dp10_1, dp10_4, dp10_9, dp10_18, ↓sBp, sBq, List.all_cons, List.all_nil, List.map_cons, List.map_nil, D.shape, Sh.sub, Sh.size, List.getElem?_cons_zero, List.getElem?_cons_succ, Option.bind_some, Option.bind_none, Option.getD_some, Option.getD_none, V.keysIn, V.kill, V.has, decide_eq_true_eq, beq_iff_eq, bne_iff_ne, ne_eq, Bool.not_eq_true', Bool.and_true, Bool.and_self, Bool.true_and, if_true, if_false, reduceIte, Bool.false_eq_true, decide_true, decide_false, beq_self_eq_true, Bool.not_true, Bool.not_false, true_and, and_true, and_self, List.append_assoc, List.nil_append, List.cons_append, Int.toNat_natCast, ck, Int.cast_ofNat_Int, Int.reduceToNat, bne_self_eq_false, Bool.or_false, Bool.false_or, Bool.false_and, Bool.and_false, Bool.or_true, Bool.true_or]
    · have q1' : ((k : Int) != m) = true := by simpa [bne] using q1
      by_cases q2 : r.d k = 4294967295
      · have q2' : (r.d k != 4294967295) = false := by simpa [bne] using q2
        simp (decide := true) only [hk1, hk0, hkw, e5, q1', q2', Try.f10, rid, kl10_7, kl10_15, dp10_1, dp10_4, dp10_9, dp10_18, ↓sBp, sBq, List.all_cons, List.all_nil, List.map_cons, List.map_nil, D.shape, Sh.sub, Sh.size, List.getElem?_cons_zero, List.getElem?_cons_succ, Option.bind_some, Option.bind_none, Option.getD_some, Option.getD_none, V.keysIn, V.kill, V.has, decide_eq_true_eq, beq_iff_eq, bne_iff_ne, ne_eq, Bool.not_eq_true', Bool.and_true, Bool.and_self, Bool.true_and, if_true, if_false, reduceIte, Bool.false_eq_true, decide_true, decide_false, beq_self_eq_true, Bool.not_true, Bool.not_false, true_and, and_true, and_self, List.append_assoc, List.nil_append, List.cons_append, Int.toNat_natCast, ck, Int.cast_ofNat_Int, Int.reduceToNat, bne_self_eq_false, Bool.or_false, Bool.false_or, Bool.false_and, Bool.and_false, Bool.or_true, Bool.true_or]
      · have q2' : (r.d k != 4294967295) = true := by simpa [bne] using q2
        obtain ⟨x, t, rfl, q3⟩ := hh q1 q2
        have q4 : (((ws (x :: t)).length : Int) == 0) = false := by rw [ws_len', List.length_cons, beq_eq_false_iff_ne]; omega
        have q5 : (ws (x :: t))[0]? = some (wayD x.1 x.2) := rfl
        generalize ws (x :: t) = es at e5 q4 q5
        simp (decide := true) only [hk1, hk0, hkw, e5, q1', q2', q3, q4, q5, Try.f10, rid, kl10_7, kl10_15, dp10_1, dp10_4, dp10_9, dp10_18, ↓sBp, sBq, List.all_cons, List.all_nil, List.map_cons, List.map_nil, D.shape, Sh.sub, Sh.size, List.getElem?_cons_zero, List.getElem?_cons_succ, Option.bind_some, Option.bind_none, Option.getD_some, Option.getD_none, V.keysIn, V.kill, V.has, decide_eq_true_eq, beq_iff_eq, bne_iff_ne, ne_eq, Bool.not_eq_true', Bool.and_true, Bool.and_self, Bool.true_and, if_true, if_false, reduceIte, Bool.false_eq_true, decide_true, decide_false, beq_self_eq_true, Bool.not_true, Bool.not_false, true_and, and_true, and_self, List.append_assoc, List.nil_append, List.cons_append, Int.toNat_natCast, ck, Int.cast_ofNat_Int, Int.reduceToNat, bne_self_eq_false, Bool.or_false, Bool.false_or, Bool.false_and, Bool.and_false, Bool.or_true, Bool.true_or]
  simp (decide := true) only [awake27_evw, Try.f10, rid, kl10_7, kl10_15, dp10_1, dp10_4, dp10_9, dp10_18, ↓sBp, sBq, List.all_cons, List.all_nil, List.map_cons, List.map_nil, D.shape, Sh.sub, Sh.size, List.getElem?_cons_zero, List.getElem?_cons_succ, Option.bind_some, Option.bind_none, Option.getD_some, Option.getD_none, V.keysIn, V.kill, V.has, decide_eq_true_eq, beq_iff_eq, bne_iff_ne, ne_eq, Bool.not_eq_true', Bool.and_true, Bool.and_self, Bool.true_and, if_true, if_false, reduceIte, Bool.false_eq_true, decide_true, decide_false, beq_self_eq_true, Bool.not_true, Bool.not_false, true_and, and_true, and_self, List.append_assoc, List.nil_append, List.cons_append, Int.toNat_natCast, ck, Int.cast_ofNat_Int, Int.reduceToNat, bne_self_eq_false, Bool.or_false, Bool.false_or, Bool.false_and, Bool.and_false, Bool.or_true, Bool.true_or]
end Go.Proofs.Ytfbaikkadndckaa.Ev
