/- What the functions of lpa compute: a round, and the table made anew. -/
import Derived.Test.YtfbaikkadndckaaLq
import Derived.Test.YtfbaikkadndckaaSf
namespace Go.Proofs.Ytfbaikkadndckaa.Ev
open Go
attribute [local congr] ob_congr sq_congr cd_congr ite_congr1 iter_congr it1_congr jumps_congr
set_option maxRecDepth 100000
set_option linter.unusedSimpArgs false
set_option linter.unusedVariables false
structure LP where
  k : Kn
  r : Rw
  least : Nat → Int
  act : Int
  wait : Nat → Int
  tell : Nat → Int
  ask : Nat → Int
  reply : Nat → Int
abbrev shL : Sh := .cons shK (.cons shRs (.cons (.arr 16 cU) (.cons shP (.cons (.arr 16 cI) (.cons (.arr 16 cI) (.cons (.arr 16 cI) .nil))))))
abbrev lpX (self up : Int) (c : Nat → Int) (tD tP : Nat → Nat → Int) (rD rP rN le : Nat → Int) (a : Int) (w t q p : Nat → Int) : D :=
  .cons (knD self up c tD tP) (.cons (rowsD rD rP rN) (.cons (arrU le) (.cons (phD a w) (.cons (arr16 t) (.cons (arr16 q) (.cons (arr16 p) .nil))))))
abbrev lpD (l : LP) : D := lpX l.k.self l.k.up l.k.c l.k.tD l.k.tP l.r.d l.r.p l.r.n l.least l.act l.wait l.tell l.ask l.reply
def nb (up : Int) : Int := bits .and .i64 up 65535
theorem setN_tree (tD tP : Nat → Nat → Int) (i : Nat) (d p : Nat → Int) : setN (fun n => D.arr 16 (.cons (.cell (.int .u32)) (.cons (.cell (.int .i64)) .nil)) fun i => D.cons (.s (.int .u32 (tD n i))) (.cons (.s (.int .i64 (tP n i))) .nil)) i (D.arr 16 (.cons (.cell (.int .u32)) (.cons (.cell (.int .i64)) .nil)) fun i => D.cons (.s (.int .u32 (d i))) (.cons (.s (.int .i64 (p i))) .nil)) =
    fun n => D.arr 16 (.cons (.cell (.int .u32)) (.cons (.cell (.int .i64)) .nil)) fun j => D.cons (.s (.int .u32 (setN tD i d n j))) (.cons (.s (.int .i64 (setN tP i p n j))) .nil) :=
  funext fun j => by by_cases h : j = i <;> simp [setN, h]
section
variable (self up : Int) (c : Nat → Int) (tD tP : Nat → Nat → Int) (rD rP rN le : Nat → Int) (a : Int) (w t q p : Nat → Int)
theorem neigh_ev (K : Nat) : evF Try.prog env xt (K+1) 169 [.d (lpX self up c tD tP rD rP rN le a w t q p)] = some (.d (.s (.int .i64 (nb up)))) := by
  rw [evF_eq Try.func169 (show Try.f169.body = some _ from rfl) rfl rfl (by show 1 ≤ 8; decide)]
  simp (decide := true) only [nb, Try.f169, rid, ↓sBp, sBq, List.all_cons, List.all_nil, List.map_cons, List.map_nil, D.shape, Sh.sub, Sh.size, List.getElem?_cons_zero, List.getElem?_cons_succ, Option.bind_some, Option.bind_none, Option.getD_some, Option.getD_none, V.keysIn, V.kill, V.has, decide_eq_true_eq, beq_iff_eq, bne_iff_ne, ne_eq, Bool.not_eq_true', Bool.and_true, Bool.and_self, Bool.true_and, if_true, if_false, reduceIte, Bool.false_eq_true, decide_true, decide_false, beq_self_eq_true, Bool.not_true, Bool.not_false, true_and, and_true, and_self, List.append_assoc, List.nil_append, List.cons_append, Int.toNat_natCast, ck, Int.cast_ofNat_Int, Int.reduceToNat, bne_self_eq_false, Bool.or_false, Bool.false_or, Bool.false_and, Bool.and_false, Bool.or_true, Bool.true_or]
theorem linked_ev (K : Nat) (n : Int) : evF Try.prog env xt (K+4) 147 [.d (lpX self up c tD tP rD rP rN le a w t q p), .d (.s (.int .i64 (n)))] = some (.d (.s (.bool (has (nb up) n)))) := by
  rw [evF_eq Try.func147 (show Try.f147.body = some _ from rfl) rfl rfl (by show 2 ≤ 9; decide)]
  simp (decide := true) only [neigh_ev, has_ev, Try.f147, rid, ↓sBp, sBq, List.all_cons, List.all_nil, List.map_cons, List.map_nil, D.shape, Sh.sub, Sh.size, List.getElem?_cons_zero, List.getElem?_cons_succ, Option.bind_some, Option.bind_none, Option.getD_some, Option.getD_none, V.keysIn, V.kill, V.has, decide_eq_true_eq, beq_iff_eq, bne_iff_ne, ne_eq, Bool.not_eq_true', Bool.and_true, Bool.and_self, Bool.true_and, if_true, if_false, reduceIte, Bool.false_eq_true, decide_true, decide_false, beq_self_eq_true, Bool.not_true, Bool.not_false, true_and, and_true, and_self, List.append_assoc, List.nil_append, List.cons_append, Int.toNat_natCast, ck, Int.cast_ofNat_Int, Int.reduceToNat, bne_self_eq_false, Bool.or_false, Bool.false_or, Bool.false_and, Bool.and_false, Bool.or_true, Bool.true_or]
theorem hush_ev (K : Nat) (n : Int) : evF Try.prog env xt (K+3) 154 [.d (lpX self up c tD tP rD rP rN le a w t q p), .d (.s (.int .i64 (n)))] = some (.d (lpX self up c tD tP rD rP rN le a w (clear t n) (clear q n) (clear p n))) := by
  rw [evF_eq Try.func154 (show Try.f154.body = some _ from rfl) rfl rfl (by show 2 ≤ 21; decide)]
  simp (decide := true) only [clear_ev, Try.f154, rid, dp154_1, ↓sBp, sBq, List.all_cons, List.all_nil, List.map_cons, List.map_nil, D.shape, Sh.sub, Sh.size, List.getElem?_cons_zero, List.getElem?_cons_succ, Option.bind_some, Option.bind_none, Option.getD_some, Option.getD_none, V.keysIn, V.kill, V.has, decide_eq_true_eq, beq_iff_eq, bne_iff_ne, ne_eq, Bool.not_eq_true', Bool.and_true, Bool.and_self, Bool.true_and, if_true, if_false, reduceIte, Bool.false_eq_true, decide_true, decide_false, beq_self_eq_true, Bool.not_true, Bool.not_false, true_and, and_true, and_self, List.append_assoc, List.nil_append, List.cons_append, Int.toNat_natCast, ck, Int.cast_ofNat_Int, Int.reduceToNat, bne_self_eq_false, Bool.or_false, Bool.false_or, Bool.false_and, Bool.and_false, Bool.or_true, Bool.true_or]
theorem forget_ev (K : Nat) (n : Int) (hn : right n = true) : evF Try.prog env xt (K+4) 148 [.d (lpX self up c tD tP rD rP rN le a w t q p), .d (.s (.int .i64 (n)))] =
    some (.d (lpX self up c (setN tD n.toNat (putN farD (-1) 0)) (setN tP n.toNat farP) rD rP rN le a w (clear t n) (clear q n) (clear p n))) := by
  rw [evF_eq Try.func148 (show Try.f148.body = some _ from rfl) rfl rfl (by show 2 ≤ 13; decide)]
  have h2 := right_nn hn
  simp (decide := true) only [h2, new_ev, hush_ev, setN_tree, Try.f148, rid, ↓sBp, sBq, List.all_cons, List.all_nil, List.map_cons, List.map_nil, D.shape, Sh.sub, Sh.size, List.getElem?_cons_zero, List.getElem?_cons_succ, Option.bind_some, Option.bind_none, Option.getD_some, Option.getD_none, V.keysIn, V.kill, V.has, decide_eq_true_eq, beq_iff_eq, bne_iff_ne, ne_eq, Bool.not_eq_true', Bool.and_true, Bool.and_self, Bool.true_and, if_true, if_false, reduceIte, Bool.false_eq_true, decide_true, decide_false, beq_self_eq_true, Bool.not_true, Bool.not_false, true_and, and_true, and_self, List.append_assoc, List.nil_append, List.cons_append, Int.toNat_natCast, ck, Int.cast_ofNat_Int, Int.reduceToNat, bne_self_eq_false, Bool.or_false, Bool.false_or, Bool.false_and, Bool.and_false, Bool.or_true, Bool.true_or]
def rdD (a : Int) (w : Nat → Int) : Int := upto (done1 w (listTo a 16)) 0 (listTo a 16).length
theorem rdD_ev (K : Nat) : evF Try.prog env xt (K+4) 134 [.d (phD a w)] = some (.d (.s (.int .i64 (rdD a w)))) := done_ev K a w
structure PhS where
  a : Int
  w : Nat → Int
def st1 (up j : Int) (s : PhS) : PhS := if has s.a j = false then ⟨withN s.a j, setN s.w j.toNat (nb up)⟩ else s
def stT (up bl : Int) (s : PhS) (i : Nat) : PhS := upto (fun q s => st1 up ((listTo bl 16).getD q 0) s) s i
theorem stT_succ (up bl : Int) (s : PhS) (i : Nat) {n : Int} (h : (listTo bl 16)[i]? = some n) : stT up bl s (i + 1) = st1 up n (stT up bl s i) := by
  have e : (listTo bl 16).getD i 0 = n := by simp [List.getD, h]
  subst e; rfl
set_option maxHeartbeats 4000000 in
theorem round_ev (K : Nat) (nbr dn a1 : Int) (w1 L1 : Nat → Int) (R : Rw) (bl : Int) (s2 : PhS) (q2 : Nat → Int) (hdn : rdD a w = dn) (ha1 : endA dn a (listTo dn 16).length = a1) (hw1 : endW dn w (listTo dn 16).length = w1)
    (hL1 : resetF dn le = L1) (hR : settleF ⟨self, up, c, tD, tP⟩ a1 = R) (hbl : blkF ⟨self, up, c, tD, tP⟩ R.n L1 = bl) (hs2 : stT nbr bl ⟨a1, w1⟩ (listTo bl 16).length = s2) (hq2 : upto (spread1 nbr bl) q 16 = q2) :
    evF Try.prog env xt (K+7) 170 [.d (lpX self up c tD tP rD rP rN le a w t q p), .d (.s (.int .i64 (nbr)))] = some (.tcons (.d (lpX self up c tD tP R.d R.p R.n L1 s2.a s2.w t q2 p)) (.tcons (.d (.s (.bool (bl != 0)))) .tnil)) := by
  rw [evF_eq Try.func170 (show Try.f170.body = some _ from rfl) rfl rfl (by show 2 ≤ 60; decide)]
  have e1 := rdD_ev a w (K+2)
  rw [hdn] at e1
  have e2 := end_ev (K+2) a w dn
  rw [ha1, hw1] at e2
  have e3 := reset_ev (K+2) le dn
  rw [hL1] at e3
  have e4 := settle_ev K self up c tD tP a1
  rw [hR] at e4
  have e5 := blocked_ev (K+2) self up c tD tP R.d R.p R.n L1
  rw [hbl] at e5
  have e6 := spread_ev (K+3) q nbr bl
  rw [hq2] at e6
  have hlen := listTo_len bl 16
  have hle := ints_length (listTo bl 16)
  simp (decide := true) only [e1, e2, e3, e4, e5, list_ev, Try.f170, rid, kl170_7, ↓sBp, sBq, List.all_cons, List.all_nil, List.map_cons, List.map_nil, D.shape, Sh.sub, Sh.size, List.getElem?_cons_zero, List.getElem?_cons_succ, Option.bind_some, Option.bind_none, Option.getD_some, Option.getD_none, V.keysIn, V.kill, V.has, decide_eq_true_eq, beq_iff_eq, bne_iff_ne, ne_eq, Bool.not_eq_true', Bool.and_true, Bool.and_self, Bool.true_and, if_true, if_false, reduceIte, Bool.false_eq_true, decide_true, decide_false, beq_self_eq_true, Bool.not_true, Bool.not_false, true_and, and_true, and_self, List.append_assoc, List.nil_append, List.cons_append, Int.toNat_natCast, ck, Int.cast_ofNat_Int, Int.reduceToNat, bne_self_eq_false, Bool.or_false, Bool.false_or, Bool.false_and, Bool.and_false, Bool.or_true, Bool.true_or]
  rw [iter_run (S := fun i => ⟨tab .junk [(1, .d (.s (.int .i64 (nbr)))), (2, .ptr 2 (shL) [] (shL)), (4, .ptr 4 (shL) [] (shL)), (7, .d (.s (.int .i64 (bl)))), (38, .sl (.tg 38) cI (ints (listTo bl 16))), (39, .d (.s (.int .i64 ((listTo bl 16).length)))), (40, .d (.s (.int .i64 (i))))], tab none [(2, some (.box (lpX self up c tD tP R.d R.p R.n L1 (stT nbr bl ⟨a1, w1⟩ i).a (stT nbr bl ⟨a1, w1⟩ i).w t q p))), (4, some (.box (Z101))), (36, none), (38, some .row)]⟩) (n := (listTo bl 16).length) (h0 := ?h0) (hn := ?hn) (step := ?step)]
  case h0 => rw [hle]; rfl
  case hn => exact lt_loopFuel (by omega)
  case step =>
    intro i hi
    have hi1 : (i : Int) < ((listTo bl 16).length : Int) := by omega
    have hi0 : (0 : Int) ≤ i := by omega
    have hiw := wrap_succ i (by omega)
    obtain ⟨n, hn, hh, he⟩ := listTo_get bl hi
    have hg := ints_get he
    have hr : right (n : Int) = true := right_of hn
    have es := stT_succ nbr bl ⟨a1, w1⟩ i he
    generalize stT nbr bl ⟨a1, w1⟩ i = s at es
    have e7 := start_ev (K+3) s.a s.w n nbr
    rcases Bool.eq_false_or_eq_true (has s.a n) with h1 | h1
    · have e8 : st1 nbr n s = s := by unfold st1; rw [if_neg (by rw [h1]; decide)]
      rw [e8] at es
      rw [if_neg (by rw [h1]; simp)] at e7
      simp (decide := true) only [hi1, hi0, hiw, hg, e7, es, Try.f170, rid, kl170_7, ↓sBp, sBq, List.all_cons, List.all_nil, List.map_cons, List.map_nil, D.shape, Sh.sub, Sh.size, List.getElem?_cons_zero, List.getElem?_cons_succ, Option.bind_some, Option.bind_none, Option.getD_some, Option.getD_none, V.keysIn, V.kill, V.has, decide_eq_true_eq, beq_iff_eq, bne_iff_ne, ne_eq, Bool.not_eq_true', Bool.and_true, Bool.and_self, Bool.true_and, if_true, if_false, reduceIte, Bool.false_eq_true, decide_true, decide_false, beq_self_eq_true, Bool.not_true, Bool.not_false, true_and, and_true, and_self, List.append_assoc, List.nil_append, List.cons_append, Int.toNat_natCast, ck, Int.cast_ofNat_Int, Int.reduceToNat, bne_self_eq_false, Bool.or_false, Bool.false_or, Bool.false_and, Bool.and_false, Bool.or_true, Bool.true_or]
    · have e8 : st1 nbr n s = ⟨withN s.a n, setN s.w (n : Int).toNat (bits .and .i64 nbr 65535)⟩ := by unfold st1; rw [if_pos h1]; rfl
      rw [e8] at es
      rw [if_pos ⟨hr, h1⟩] at e7
      simp (decide := true) only [hi1, hi0, hiw, hg, e7, es, Try.f170, rid, kl170_7, ↓sBp, sBq, List.all_cons, List.all_nil, List.map_cons, List.map_nil, D.shape, Sh.sub, Sh.size, List.getElem?_cons_zero, List.getElem?_cons_succ, Option.bind_some, Option.bind_none, Option.getD_some, Option.getD_none, V.keysIn, V.kill, V.has, decide_eq_true_eq, beq_iff_eq, bne_iff_ne, ne_eq, Bool.not_eq_true', Bool.and_true, Bool.and_self, Bool.true_and, if_true, if_false, reduceIte, Bool.false_eq_true, decide_true, decide_false, beq_self_eq_true, Bool.not_true, Bool.not_false, true_and, and_true, and_self, List.append_assoc, List.nil_append, List.cons_append, Int.toNat_natCast, ck, Int.cast_ofNat_Int, Int.reduceToNat, bne_self_eq_false, Bool.or_false, Bool.false_or, Bool.false_and, Bool.and_false, Bool.or_true, Bool.true_or]
  rw [hs2]
  simp (decide := true) only [Int.lt_irrefl, e6, Try.f170, rid, kl170_7, ↓sBp, sBq, List.all_cons, List.all_nil, List.map_cons, List.map_nil, D.shape, Sh.sub, Sh.size, List.getElem?_cons_zero, List.getElem?_cons_succ, Option.bind_some, Option.bind_none, Option.getD_some, Option.getD_none, V.keysIn, V.kill, V.has, decide_eq_true_eq, beq_iff_eq, bne_iff_ne, ne_eq, Bool.not_eq_true', Bool.and_true, Bool.and_self, Bool.true_and, if_true, if_false, reduceIte, Bool.false_eq_true, decide_true, decide_false, beq_self_eq_true, Bool.not_true, Bool.not_false, true_and, and_true, and_self, List.append_assoc, List.nil_append, List.cons_append, Int.toNat_natCast, ck, Int.cast_ofNat_Int, Int.reduceToNat, bne_self_eq_false, Bool.or_false, Bool.false_or, Bool.false_and, Bool.and_false, Bool.or_true, Bool.true_or]
end
end Go.Proofs.Ytfbaikkadndckaa.Ev
