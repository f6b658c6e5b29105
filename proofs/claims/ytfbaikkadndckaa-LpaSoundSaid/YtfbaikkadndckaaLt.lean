/- What the functions of lpa compute: links, what is heard, what is drained, a new node. -/
import Derived.Test.YtfbaikkadndckaaLs
namespace Go.Proofs.Ytfbaikkadndckaa.Ev
open Go
attribute [local congr] ob_congr sq_congr cd_congr ite_congr1 iter_congr it1_congr jumps_congr
set_option maxRecDepth 100000
set_option linter.unusedSimpArgs false
set_option linter.unusedVariables false
theorem set_ok (K : Nat) (up : Int) (c : Nat → Int) (n cost : Int) (h : costOk n cost = true) : evF Try.prog env xt (K+3) 135 [.d (costsD up c), .d (.s (.int .i64 (n))), .d (.s (.int .u32 (cost)))] = some (.tcons (.d (costsD (withN up n) (setN c n.toNat cost))) (.tcons (.d (.s (.int .i64 (0)))) .tnil)) := by
  rw [set_ev, if_pos h, if_pos h]
theorem set_no (K : Nat) (up : Int) (c : Nat → Int) (n cost : Int) (h : costOk n cost = false) : evF Try.prog env xt (K+3) 135 [.d (costsD up c), .d (.s (.int .i64 (n))), .d (.s (.int .u32 (cost)))] = some (.tcons (.d (costsD up c)) (.tcons (.d (.s (.int .i64 (1)))) .tnil)) := by
  rw [set_ev, if_neg (by rw [h]; decide), if_neg (by rw [h]; decide)]
theorem cutC_ev (K : Nat) (up : Int) (c : Nat → Int) (n : Int) (h : right n = true) : evF Try.prog env xt (K+3) 151 [.d (costsD up c), .d (.s (.int .i64 (n)))] = some (.d (costsD (withoutN up n) (setN c n.toNat 0))) := by
  rw [cut_ev, if_pos h]
theorem costOk_right {n c : Int} (h : costOk n c = true) : right n = true := by
  unfold costOk at h
  rw [Bool.and_eq_true] at h
  exact h.1
def upG (l : LP) (n cost : Int) : LP :=
  ⟨⟨l.k.self, withN l.k.up n, setN l.k.c n.toNat cost, setN l.k.tD n.toNat (putN farD (-1) 0), setN l.k.tP n.toNat farP⟩, l.r, l.least, l.act, l.wait, setN (clear l.tell n) n.toNat (reached (cut l.r.d)), clear l.ask n, clear l.reply n⟩
def upO (l : LP) (n cost : Int) : Bool := !(n == l.k.self) && (!has (nb l.k.up) n && costOk n cost)
def upE (l : LP) (n cost : Int) : Int := if (n == l.k.self) = true then 1 else if has (nb l.k.up) n = true then 10 else if costOk n cost = true then 0 else 1
noncomputable def upF (l : LP) (n cost : Int) : LP := if upO l n cost = true then anewF (upG l n cost) else l
theorem lpUp_ev (K : Nat) (l : LP) (n cost : Int) : evF Try.prog env xt (K+9) 118 [.d (lpD l), .d (.s (.int .i64 (n))), .d (.s (.int .u32 (cost)))] = some (.tcons (.d (lpD (upF l n cost))) (.tcons (.d (.s (.int .i64 (upE l n cost)))) .tnil)) := by
  rw [evF_eq Try.func118 (show Try.f118.body = some _ from rfl) rfl rfl (by show 3 ≤ 48; decide)]
  rcases Bool.eq_false_or_eq_true (n == l.k.self) with h1 | h1
  · have e1 : upF l n cost = l := by unfold upF upO; rw [h1]; rfl
    have e2 : upE l n cost = 1 := by unfold upE; rw [if_pos h1]
    rw [e1, e2]
    simp (decide := true) only [h1, Try.f118, rid, ↓sBp, sBq, List.all_cons, List.all_nil, List.map_cons, List.map_nil, D.shape, Sh.sub, Sh.size, List.getElem?_cons_zero, List.getElem?_cons_succ, Option.bind_some, Option.bind_none, Option.getD_some, Option.getD_none, V.keysIn, V.kill, V.has, decide_eq_true_eq, beq_iff_eq, bne_iff_ne, ne_eq, Bool.not_eq_true', Bool.and_true, Bool.and_self, Bool.true_and, if_true, if_false, reduceIte, Bool.false_eq_true, decide_true, decide_false, beq_self_eq_true, Bool.not_true, Bool.not_false, true_and, and_true, and_self, List.append_assoc, List.nil_append, List.cons_append, Int.toNat_natCast, ck, Int.cast_ofNat_Int, Int.reduceToNat, bne_self_eq_false, Bool.or_false, Bool.false_or, Bool.false_and, Bool.and_false, Bool.or_true, Bool.true_or]
  rcases Bool.eq_false_or_eq_true (has (nb l.k.up) n) with h2 | h2
  · have e1 : upF l n cost = l := by unfold upF upO; rw [h1, h2]; rfl
    have e2 : upE l n cost = 10 := by unfold upE; rw [if_neg (by rw [h1]; decide), if_pos h2]
    rw [e1, e2]
    simp (decide := true) only [h1, linked_ev, h2, Try.f118, rid, ↓sBp, sBq, List.all_cons, List.all_nil, List.map_cons, List.map_nil, D.shape, Sh.sub, Sh.size, List.getElem?_cons_zero, List.getElem?_cons_succ, Option.bind_some, Option.bind_none, Option.getD_some, Option.getD_none, V.keysIn, V.kill, V.has, decide_eq_true_eq, beq_iff_eq, bne_iff_ne, ne_eq, Bool.not_eq_true', Bool.and_true, Bool.and_self, Bool.true_and, if_true, if_false, reduceIte, Bool.false_eq_true, decide_true, decide_false, beq_self_eq_true, Bool.not_true, Bool.not_false, true_and, and_true, and_self, List.append_assoc, List.nil_append, List.cons_append, Int.toNat_natCast, ck, Int.cast_ofNat_Int, Int.reduceToNat, bne_self_eq_false, Bool.or_false, Bool.false_or, Bool.false_and, Bool.and_false, Bool.or_true, Bool.true_or]
  rcases Bool.eq_false_or_eq_true (costOk n cost) with h3 | h3
  · have e1 : upF l n cost = anewF (upG l n cost) := by unfold upF upO; rw [h1, h2, h3]; rfl
    have e2 : upE l n cost = 0 := by unfold upE; rw [if_neg (by rw [h1]; decide), if_neg (by rw [h2]; decide), if_pos h3]
    rw [e1, e2]
    have hr := costOk_right h3
    have hr2 := right_nn hr
    have e3 := set_ok (K+5) l.k.up l.k.c n cost h3
    have e4 := forget_ev l.k.self (withN l.k.up n) (setN l.k.c n.toNat cost) l.k.tD l.k.tP l.r.d l.r.p l.r.n l.least l.act l.wait l.tell l.ask l.reply (K+4) n hr
    have e5 : evF Try.prog env xt (K+8) 150 [.d (lpX l.k.self (withN l.k.up n) (setN l.k.c n.toNat cost) (setN l.k.tD n.toNat (putN farD (-1) 0)) (setN l.k.tP n.toNat farP) l.r.d l.r.p l.r.n l.least l.act l.wait (setN (clear l.tell n) n.toNat (reached (cut l.r.d))) (clear l.ask n) (clear l.reply n))] = some (.d (lpD (anewF (upG l n cost)))) := anew_ev K (upG l n cost)
    generalize anewF (upG l n cost) = m at e5
    simp (decide := true) only [h1, linked_ev, h2, e3, e4, hr2, tree_ev, reached_ev, setN_int, e5, Try.f118, rid, ↓sBp, sBq, List.all_cons, List.all_nil, List.map_cons, List.map_nil, D.shape, Sh.sub, Sh.size, List.getElem?_cons_zero, List.getElem?_cons_succ, Option.bind_some, Option.bind_none, Option.getD_some, Option.getD_none, V.keysIn, V.kill, V.has, decide_eq_true_eq, beq_iff_eq, bne_iff_ne, ne_eq, Bool.not_eq_true', Bool.and_true, Bool.and_self, Bool.true_and, if_true, if_false, reduceIte, Bool.false_eq_true, decide_true, decide_false, beq_self_eq_true, Bool.not_true, Bool.not_false, true_and, and_true, and_self, List.append_assoc, List.nil_append, List.cons_append, Int.toNat_natCast, ck, Int.cast_ofNat_Int, Int.reduceToNat, bne_self_eq_false, Bool.or_false, Bool.false_or, Bool.false_and, Bool.and_false, Bool.or_true, Bool.true_or]
  · have e1 : upF l n cost = l := by unfold upF upO; rw [h1, h2, h3]; rfl
    have e2 : upE l n cost = 1 := by unfold upE; rw [if_neg (by rw [h1]; decide), if_neg (by rw [h2]; decide), if_neg (by rw [h3]; decide)]
    rw [e1, e2]
    have e3 := set_no (K+5) l.k.up l.k.c n cost h3
    simp (decide := true) only [h1, linked_ev, h2, e3, Try.f118, rid, ↓sBp, sBq, List.all_cons, List.all_nil, List.map_cons, List.map_nil, D.shape, Sh.sub, Sh.size, List.getElem?_cons_zero, List.getElem?_cons_succ, Option.bind_some, Option.bind_none, Option.getD_some, Option.getD_none, V.keysIn, V.kill, V.has, decide_eq_true_eq, beq_iff_eq, bne_iff_ne, ne_eq, Bool.not_eq_true', Bool.and_true, Bool.and_self, Bool.true_and, if_true, if_false, reduceIte, Bool.false_eq_true, decide_true, decide_false, beq_self_eq_true, Bool.not_true, Bool.not_false, true_and, and_true, and_self, List.append_assoc, List.nil_append, List.cons_append, Int.toNat_natCast, ck, Int.cast_ofNat_Int, Int.reduceToNat, bne_self_eq_false, Bool.or_false, Bool.false_or, Bool.false_and, Bool.and_false, Bool.or_true, Bool.true_or]
def dnG (l : LP) (n : Int) : LP :=
  ⟨⟨l.k.self, withoutN l.k.up n, setN l.k.c n.toNat 0, setN l.k.tD n.toNat (putN farD (-1) 0), setN l.k.tP n.toNat farP⟩, l.r, l.least, l.act, upto (fun k w => replyW k n w) l.wait 16, clear l.tell n, clear l.ask n, clear l.reply n⟩
noncomputable def downF (l : LP) (n : Int) : LP := if has (nb l.k.up) n = true then anewF (dnG l n) else l
def lnE (l : LP) (n : Int) : Int := if has (nb l.k.up) n = true then 0 else 9
theorem lpDown_ev (K : Nat) (l : LP) (n : Int) : evF Try.prog env xt (K+9) 119 [.d (lpD l), .d (.s (.int .i64 (n)))] = some (.tcons (.d (lpD (downF l n))) (.tcons (.d (.s (.int .i64 (lnE l n)))) .tnil)) := by
  rw [evF_eq Try.func119 (show Try.f119.body = some _ from rfl) rfl rfl (by show 2 ≤ 28; decide)]
  rcases Bool.eq_false_or_eq_true (has (nb l.k.up) n) with h2 | h2
  · have e1 : downF l n = anewF (dnG l n) := by unfold downF; rw [if_pos h2]
    have e2 : lnE l n = 0 := by unfold lnE; rw [if_pos h2]
    rw [e1, e2]
    have hr := has_right h2
    have e3 := cutC_ev (K+5) l.k.up l.k.c n hr
    have e4 := forget_ev l.k.self (withoutN l.k.up n) (setN l.k.c n.toNat 0) l.k.tD l.k.tP l.r.d l.r.p l.r.n l.least l.act l.wait l.tell l.ask l.reply (K+4) n hr
    have e5 : evF Try.prog env xt (K+8) 150 [.d (lpX l.k.self (withoutN l.k.up n) (setN l.k.c n.toNat 0) (setN l.k.tD n.toNat (putN farD (-1) 0)) (setN l.k.tP n.toNat farP) l.r.d l.r.p l.r.n l.least l.act (upto (fun k w => replyW k n w) l.wait 16) (clear l.tell n) (clear l.ask n) (clear l.reply n))] = some (.d (lpD (anewF (dnG l n)))) := anew_ev K (dnG l n)
    generalize anewF (dnG l n) = m at e5
    simp (decide := true) only [linked_ev, h2, e3, e4, gone_ev, e5, Try.f119, rid, ↓sBp, sBq, List.all_cons, List.all_nil, List.map_cons, List.map_nil, D.shape, Sh.sub, Sh.size, List.getElem?_cons_zero, List.getElem?_cons_succ, Option.bind_some, Option.bind_none, Option.getD_some, Option.getD_none, V.keysIn, V.kill, V.has, decide_eq_true_eq, beq_iff_eq, bne_iff_ne, ne_eq, Bool.not_eq_true', Bool.and_true, Bool.and_self, Bool.true_and, if_true, if_false, reduceIte, Bool.false_eq_true, decide_true, decide_false, beq_self_eq_true, Bool.not_true, Bool.not_false, true_and, and_true, and_self, List.append_assoc, List.nil_append, List.cons_append, Int.toNat_natCast, ck, Int.cast_ofNat_Int, Int.reduceToNat, bne_self_eq_false, Bool.or_false, Bool.false_or, Bool.false_and, Bool.and_false, Bool.or_true, Bool.true_or]
  · have e1 : downF l n = l := by unfold downF; rw [if_neg (by rw [h2]; decide)]
    have e2 : lnE l n = 9 := by unfold lnE; rw [if_neg (by rw [h2]; decide)]
    rw [e1, e2]
    simp (decide := true) only [linked_ev, h2, Try.f119, rid, ↓sBp, sBq, List.all_cons, List.all_nil, List.map_cons, List.map_nil, D.shape, Sh.sub, Sh.size, List.getElem?_cons_zero, List.getElem?_cons_succ, Option.bind_some, Option.bind_none, Option.getD_some, Option.getD_none, V.keysIn, V.kill, V.has, decide_eq_true_eq, beq_iff_eq, bne_iff_ne, ne_eq, Bool.not_eq_true', Bool.and_true, Bool.and_self, Bool.true_and, if_true, if_false, reduceIte, Bool.false_eq_true, decide_true, decide_false, beq_self_eq_true, Bool.not_true, Bool.not_false, true_and, and_true, and_self, List.append_assoc, List.nil_append, List.cons_append, Int.toNat_natCast, ck, Int.cast_ofNat_Int, Int.reduceToNat, bne_self_eq_false, Bool.or_false, Bool.false_or, Bool.false_and, Bool.and_false, Bool.or_true, Bool.true_or]
def coG (l : LP) (n cost : Int) : LP := ⟨⟨l.k.self, withN l.k.up n, setN l.k.c n.toNat cost, l.k.tD, l.k.tP⟩, l.r, l.least, l.act, l.wait, l.tell, l.ask, l.reply⟩
noncomputable def costF (l : LP) (n cost : Int) : LP := if (has (nb l.k.up) n && costOk n cost) = true then anewF (coG l n cost) else l
def coE (l : LP) (n cost : Int) : Int := if has (nb l.k.up) n = true then (if costOk n cost = true then 0 else 1) else 9
theorem lpCost_ev (K : Nat) (l : LP) (n cost : Int) : evF Try.prog env xt (K+9) 120 [.d (lpD l), .d (.s (.int .i64 (n))), .d (.s (.int .u32 (cost)))] = some (.tcons (.d (lpD (costF l n cost))) (.tcons (.d (.s (.int .i64 (coE l n cost)))) .tnil)) := by
  rw [evF_eq Try.func120 (show Try.f120.body = some _ from rfl) rfl rfl (by show 3 ≤ 33; decide)]
  rcases Bool.eq_false_or_eq_true (has (nb l.k.up) n) with h2 | h2
  · rcases Bool.eq_false_or_eq_true (costOk n cost) with h3 | h3
    · have e1 : costF l n cost = anewF (coG l n cost) := by unfold costF; rw [h2, h3]; rfl
      have e2 : coE l n cost = 0 := by unfold coE; rw [if_pos h2, if_pos h3]
      rw [e1, e2]
      have e3 := set_ok (K+5) l.k.up l.k.c n cost h3
      have e5 : evF Try.prog env xt (K+8) 150 [.d (lpX l.k.self (withN l.k.up n) (setN l.k.c n.toNat cost) l.k.tD l.k.tP l.r.d l.r.p l.r.n l.least l.act l.wait l.tell l.ask l.reply)] = some (.d (lpD (anewF (coG l n cost)))) := anew_ev K (coG l n cost)
      generalize anewF (coG l n cost) = m at e5
      simp (decide := true) only [linked_ev, h2, e3, e5, Try.f120, rid, ↓sBp, sBq, List.all_cons, List.all_nil, List.map_cons, List.map_nil, D.shape, Sh.sub, Sh.size, List.getElem?_cons_zero, List.getElem?_cons_succ, Option.bind_some, Option.bind_none, Option.getD_some, Option.getD_none, V.keysIn, V.kill, V.has, decide_eq_true_eq, beq_iff_eq, bne_iff_ne, ne_eq, Bool.not_eq_true', Bool.and_true, Bool.and_self, Bool.true_and, if_true, if_false, reduceIte, Bool.false_eq_true, decide_true, decide_false, beq_self_eq_true, Bool.not_true, Bool.not_false, true_and, and_true, and_self, List.append_assoc, List.nil_append, List.cons_append, Int.toNat_natCast, ck, Int.cast_ofNat_Int, Int.reduceToNat, bne_self_eq_false, Bool.or_false, Bool.false_or, Bool.false_and, Bool.and_false, Bool.or_true, Bool.true_or]
    · have e1 : costF l n cost = l := by unfold costF; rw [h2, h3]; rfl
      have e2 : coE l n cost = 1 := by unfold coE; rw [if_pos h2, if_neg (by rw [h3]; decide)]
      rw [e1, e2]
      have e3 := set_no (K+5) l.k.up l.k.c n cost h3
      simp (decide := true) only [linked_ev, h2, e3, Try.f120, rid, ↓sBp, sBq, List.all_cons, List.all_nil, List.map_cons, List.map_nil, D.shape, Sh.sub, Sh.size, List.getElem?_cons_zero, List.getElem?_cons_succ, Option.bind_some, Option.bind_none, Option.getD_some, Option.getD_none, V.keysIn, V.kill, V.has, decide_eq_true_eq, beq_iff_eq, bne_iff_ne, ne_eq, Bool.not_eq_true', Bool.and_true, Bool.and_self, Bool.true_and, if_true, if_false, reduceIte, Bool.false_eq_true, decide_true, decide_false, beq_self_eq_true, Bool.not_true, Bool.not_false, true_and, and_true, and_self, List.append_assoc, List.nil_append, List.cons_append, Int.toNat_natCast, ck, Int.cast_ofNat_Int, Int.reduceToNat, bne_self_eq_false, Bool.or_false, Bool.false_or, Bool.false_and, Bool.and_false, Bool.or_true, Bool.true_or]
  · have e1 : costF l n cost = l := by unfold costF; rw [h2]; rfl
    have e2 : coE l n cost = 9 := by unfold coE; rw [if_neg (by rw [h2]; decide)]
    rw [e1, e2]
    simp (decide := true) only [linked_ev, h2, Try.f120, rid, ↓sBp, sBq, List.all_cons, List.all_nil, List.map_cons, List.map_nil, D.shape, Sh.sub, Sh.size, List.getElem?_cons_zero, List.getElem?_cons_succ, Option.bind_some, Option.bind_none, Option.getD_some, Option.getD_none, V.keysIn, V.kill, V.has, decide_eq_true_eq, beq_iff_eq, bne_iff_ne, ne_eq, Bool.not_eq_true', Bool.and_true, Bool.and_self, Bool.true_and, if_true, if_false, reduceIte, Bool.false_eq_true, decide_true, decide_false, beq_self_eq_true, Bool.not_true, Bool.not_false, true_and, and_true, and_self, List.append_assoc, List.nil_append, List.cons_append, Int.toNat_natCast, ck, Int.cast_ofNat_Int, Int.reduceToNat, bne_self_eq_false, Bool.or_false, Bool.false_or, Bool.false_and, Bool.and_false, Bool.or_true, Bool.true_or]
def anyF (l : Nat → Int) : Int := upto (any1 l) 0 16
theorem anyF_ev (K : Nat) (l : Nat → Int) : evF Try.prog env xt (K+3) 174 [.d (arr16 l)] = some (.d (.s (.int .i64 (anyF l)))) := any_ev K l
def dueF (l : LP) : Int := bits .or .i64 (bits .or .i64 (anyF l.tell) (anyF l.ask)) (anyF l.reply)
theorem due_ev (K : Nat) (l : LP) : evF Try.prog env xt (K+4) 155 [.d (lpD l)] = some (.d (.s (.int .i64 (dueF l)))) := by
  rw [evF_eq Try.func155 (show Try.f155.body = some _ from rfl) rfl rfl (by show 1 ≤ 14; decide)]
  simp (decide := true) only [anyF_ev, dueF, Try.f155, rid, dp155_1, ↓sBp, sBq, List.all_cons, List.all_nil, List.map_cons, List.map_nil, D.shape, Sh.sub, Sh.size, List.getElem?_cons_zero, List.getElem?_cons_succ, Option.bind_some, Option.bind_none, Option.getD_some, Option.getD_none, V.keysIn, V.kill, V.has, decide_eq_true_eq, beq_iff_eq, bne_iff_ne, ne_eq, Bool.not_eq_true', Bool.and_true, Bool.and_self, Bool.true_and, if_true, if_false, reduceIte, Bool.false_eq_true, decide_true, decide_false, beq_self_eq_true, Bool.not_true, Bool.not_false, true_and, and_true, and_self, List.append_assoc, List.nil_append, List.cons_append, Int.toNat_natCast, ck, Int.cast_ofNat_Int, Int.reduceToNat, bne_self_eq_false, Bool.or_false, Bool.false_or, Bool.false_and, Bool.and_false, Bool.or_true, Bool.true_or]
theorem pending_ev (K : Nat) (l : LP) (n : Int) : evF Try.prog env xt (K+5) 132 [.d (lpD l), .d (.s (.int .i64 (n)))] = some (.d (.s (.bool (has (dueF l) n)))) := by
  rw [evF_eq Try.func132 (show Try.f132.body = some _ from rfl) rfl rfl (by show 2 ≤ 9; decide)]
  have e := due_ev K l
  simp (decide := true) only [e, has_ev, Try.f132, rid, ↓sBp, sBq, List.all_cons, List.all_nil, List.map_cons, List.map_nil, D.shape, Sh.sub, Sh.size, List.getElem?_cons_zero, List.getElem?_cons_succ, Option.bind_some, Option.bind_none, Option.getD_some, Option.getD_none, V.keysIn, V.kill, V.has, decide_eq_true_eq, beq_iff_eq, bne_iff_ne, ne_eq, Bool.not_eq_true', Bool.and_true, Bool.and_self, Bool.true_and, if_true, if_false, reduceIte, Bool.false_eq_true, decide_true, decide_false, beq_self_eq_true, Bool.not_true, Bool.not_false, true_and, and_true, and_self, List.append_assoc, List.nil_append, List.cons_append, Int.toNat_natCast, ck, Int.cast_ofNat_Int, Int.reduceToNat, bne_self_eq_false, Bool.or_false, Bool.false_or, Bool.false_and, Bool.and_false, Bool.or_true, Bool.true_or]
def hushG (l : LP) (n : Int) : LP := ⟨l.k, l.r, l.least, l.act, l.wait, clear l.tell n, clear l.ask n, clear l.reply n⟩
def drainF (l : LP) (n : Int) : LP := if has (dueF l) n = true then hushG l n else l
def drainI (l : LP) (n : Int) : List D := if has (dueF l) n = true then itemsTo (cut l.r.d) (cut l.r.p) (l.tell n.toNat) (l.ask n.toNat) (l.reply n.toNat) 16 else []
theorem drain_ev (K : Nat) (l : LP) (n : Int) : evF Try.prog env xt (K+6) 122 [.d (lpD l), .d (.s (.int .i64 (n)))] = some (.tcons (.d (lpD (drainF l n))) (.tcons (.sl .ro shI (drainI l n)) .tnil)) := by
  rw [evF_eq Try.func122 (show Try.f122.body = some _ from rfl) rfl rfl (by show 2 ≤ 32; decide)]
  have e := pending_ev K l n
  rcases Bool.eq_false_or_eq_true (has (dueF l) n) with h2 | h2
  · have e1 : drainF l n = hushG l n := by unfold drainF; rw [if_pos h2]
    have e2 : drainI l n = itemsTo (cut l.r.d) (cut l.r.p) (l.tell n.toNat) (l.ask n.toNat) (l.reply n.toNat) 16 := by unfold drainI; rw [if_pos h2]
    rw [e1, e2]
    have hr := right_nn (has_right h2)
    simp (decide := true) only [e, h2, hr, tree_ev, items_ev, hush_ev, Try.f122, rid, dp122_3, ↓sBp, sBq, List.all_cons, List.all_nil, List.map_cons, List.map_nil, D.shape, Sh.sub, Sh.size, List.getElem?_cons_zero, List.getElem?_cons_succ, Option.bind_some, Option.bind_none, Option.getD_some, Option.getD_none, V.keysIn, V.kill, V.has, decide_eq_true_eq, beq_iff_eq, bne_iff_ne, ne_eq, Bool.not_eq_true', Bool.and_true, Bool.and_self, Bool.true_and, if_true, if_false, reduceIte, Bool.false_eq_true, decide_true, decide_false, beq_self_eq_true, Bool.not_true, Bool.not_false, true_and, and_true, and_self, List.append_assoc, List.nil_append, List.cons_append, Int.toNat_natCast, ck, Int.cast_ofNat_Int, Int.reduceToNat, bne_self_eq_false, Bool.or_false, Bool.false_or, Bool.false_and, Bool.and_false, Bool.or_true, Bool.true_or]
    rfl
  · have e1 : drainF l n = l := by unfold drainF; rw [if_neg (by rw [h2]; decide)]
    have e2 : drainI l n = [] := by unfold drainI; rw [if_neg (by rw [h2]; decide)]
    rw [e1, e2]
    simp (decide := true) only [e, h2, Try.f122, rid, dp122_3, ↓sBp, sBq, List.all_cons, List.all_nil, List.map_cons, List.map_nil, D.shape, Sh.sub, Sh.size, List.getElem?_cons_zero, List.getElem?_cons_succ, Option.bind_some, Option.bind_none, Option.getD_some, Option.getD_none, V.keysIn, V.kill, V.has, decide_eq_true_eq, beq_iff_eq, bne_iff_ne, ne_eq, Bool.not_eq_true', Bool.and_true, Bool.and_self, Bool.true_and, if_true, if_false, reduceIte, Bool.false_eq_true, decide_true, decide_false, beq_self_eq_true, Bool.not_true, Bool.not_false, true_and, and_true, and_self, List.append_assoc, List.nil_append, List.cons_append, Int.toNat_natCast, ck, Int.cast_ofNat_Int, Int.reduceToNat, bne_self_eq_false, Bool.or_false, Bool.false_or, Bool.false_and, Bool.and_false, Bool.or_true, Bool.true_or]
end Go.Proofs.Ytfbaikkadndckaa.Ev
