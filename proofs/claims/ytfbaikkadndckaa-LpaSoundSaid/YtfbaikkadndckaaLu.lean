/- lpa.Heard, as a body of its own, and lpa.New. -/
import Derived.Test.YtfbaikkadndckaaLt
namespace Go.Proofs.Ytfbaikkadndckaa.Ev
open Go
attribute [local congr] ob_congr sq_congr cd_congr ite_congr1 iter_congr it1_congr jumps_congr
set_option maxRecDepth 100000
set_option linter.unusedSimpArgs false
set_option linter.unusedVariables false
def hrW (s n : Int) (w : Nat → Int) (i : Nat) : Nat → Int := upto (fun q w => replyW ((listTo s 16).getD q 0) n w) w i
theorem hrW_succ (s n : Int) (w : Nat → Int) (i : Nat) {m : Int} (h : (listTo s 16)[i]? = some m) : hrW s n w (i + 1) = replyW m n (hrW s n w i) := by
  have e : (listTo s 16).getD i 0 = m := by simp [List.getD, h]
  subst e; rfl
def hrG (l : LP) (n : Int) (its : List Itm) : LP :=
  ⟨⟨l.k.self, l.k.up, l.k.c, setN l.k.tD n.toNat (appTo its ⟨l.k.tD n.toNat, l.k.tP n.toNat⟩ its.length).d, setN l.k.tP n.toNat (appTo its ⟨l.k.tD n.toNat, l.k.tP n.toNat⟩ its.length).p⟩, l.r, l.least, l.act,
    hrW (destTo its 2 its.length) n l.wait (listTo (destTo its 2 its.length) 16).length, l.tell, l.ask, setN l.reply n.toNat (bits .or .i64 (l.reply n.toNat) (destTo its 1 its.length))⟩
noncomputable def heardF (l : LP) (n : Int) (its : List Itm) : LP := if has (nb l.k.up) n = true then anewF (hrG l n its) else l
/-- The body of Heard, run. -/
noncomputable def heardX (ext : Nat → List V → Option V) (n : Nat) (vs : List V) : Option V :=
  ob Try.f121.body fun c => resX env Try.f121.results.toList (evC env (evF Try.prog env ext n) 121 loopFuel c (enter vs))
theorem dpH : env.dp 121 4 = [] := nr rfl
set_option maxHeartbeats 2000000 in
theorem heard_gen (K : Nat) (l : LP) (n : Int) (its : List Itm) (v : V) (hv : ∀ m, argV m v = some v) (q3 : ∀ d p : Nat → Int, evF Try.prog env xt (K+8) 45 [.d (treeD d p), v] = some (.d (treeD (appTo its ⟨d, p⟩ its.length).d (appTo its ⟨d, p⟩ its.length).p)))
    (q4 : evF Try.prog env xt (K+8) 98 [v] = some (.d (.s (.int .i64 (destTo its 1 its.length))))) (q5 : evF Try.prog env xt (K+8) 99 [v] = some (.d (.s (.int .i64 (destTo its 2 its.length))))) : heardX xt (K+8) [.d (lpD l), .d (.s (.int .i64 (n))), v] = some (.tcons (.d (lpD (heardF l n its))) (.tcons (.d (.s (.int .i64 (lnE l n)))) .tnil)) := by
  unfold heardX
  rw [show Try.f121.body = some _ from rfl, ob_some]
  rcases Bool.eq_false_or_eq_true (has (nb l.k.up) n) with h2 | h2
  · have e1 : heardF l n its = anewF (hrG l n its) := by unfold heardF; rw [if_pos h2]
    have e2 : lnE l n = 0 := by unfold lnE; rw [if_pos h2]
    rw [e1, e2]
    have hr := has_right h2
    have hr2 := right_nn hr
    obtain ⟨m, hm, rfl⟩ : ∃ m : Nat, m < 16 ∧ n = m := ⟨n.toNat, by omega, by omega⟩
    have e3 := q3 (l.k.tD m) (l.k.tP m)
    have e4 := q4
    have e5 := q5
    clear q3 q4 q5
    have hG : anewF (hrG l m its) = anewF ⟨⟨l.k.self, l.k.up, l.k.c, setN l.k.tD m (appTo its ⟨l.k.tD m, l.k.tP m⟩ its.length).d, setN l.k.tP m (appTo its ⟨l.k.tD m, l.k.tP m⟩ its.length).p⟩, l.r, l.least, l.act,
      hrW (destTo its 2 its.length) m l.wait (listTo (destTo its 2 its.length) 16).length, l.tell, l.ask, setN l.reply m (bits .or .i64 (l.reply m) (destTo its 1 its.length))⟩ := rfl
    rw [hG]
    generalize appTo its ⟨l.k.tD m, l.k.tP m⟩ its.length = T at e3 ⊢
    generalize destTo its 1 its.length = asq at e4 ⊢
    generalize destTo its 2 its.length = rs at e5 ⊢
    have hlen := listTo_len rs 16
    have hle := ints_length (listTo rs 16)
    simp (decide := true) only [hv, dpH, linked_ev, h2, hr2, e3, setN_tree, e4, setN_int, e5, list_ev, Try.f121, rid, kl121_6, ↓sBp, sBq, List.all_cons, List.all_nil, List.map_cons, List.map_nil, D.shape, Sh.sub, Sh.size, List.getElem?_cons_zero, List.getElem?_cons_succ, Option.bind_some, Option.bind_none, Option.getD_some, Option.getD_none, V.keysIn, V.kill, V.has, decide_eq_true_eq, beq_iff_eq, bne_iff_ne, ne_eq, Bool.not_eq_true', Bool.and_true, Bool.and_self, Bool.true_and, if_true, if_false, reduceIte, Bool.false_eq_true, decide_true, decide_false, beq_self_eq_true, Bool.not_true, Bool.not_false, true_and, and_true, and_self, List.append_assoc, List.nil_append, List.cons_append, Int.toNat_natCast, ck, Int.cast_ofNat_Int, Int.reduceToNat, bne_self_eq_false, Bool.or_false, Bool.false_or, Bool.false_and, Bool.and_false, Bool.or_true, Bool.true_or]
    rw [iter_run (S := fun i => ⟨tab .junk [(1, .d (.s (.int .i64 ((m : Nat))))), (3, .ptr 3 (shL) [] (shL)), (6, .ptr 6 (shL) [] (shL)), (37, .sl (.tg 37) cI (ints (listTo rs 16))), (38, .d (.s (.int .i64 ((listTo rs 16).length)))), (39, .d (.s (.int .i64 (i))))], tab none [(3, some (.box (lpX l.k.self l.k.up l.k.c (setN l.k.tD m T.d) (setN l.k.tP m T.p) l.r.d l.r.p l.r.n l.least l.act (hrW rs m l.wait i) l.tell l.ask (setN l.reply m (bits .or .i64 (l.reply m) asq))))), (6, some (.box (Z101))), (37, some .row)]⟩) (n := (listTo rs 16).length) (h0 := ?h0) (hn := ?hn) (step := ?step)]
    case h0 => rw [hle]; rfl
    case hn => exact lt_loopFuel (by omega)
    case step =>
      intro i hi
      have hi1 : (i : Int) < ((listTo rs 16).length : Int) := by omega
      have hi0 : (0 : Int) ≤ i := by omega
      have hiw := wrap_succ i (by omega)
      obtain ⟨n, hn, hh, he⟩ := listTo_get rs hi
      have hg := ints_get he
      have es := hrW_succ rs m l.wait i he
      generalize hrW rs m l.wait i = w at es
      simp (decide := true) only [hi1, hi0, hiw, hg, reply_ev, es, Try.f121, rid, kl121_6, ↓sBp, sBq, List.all_cons, List.all_nil, List.map_cons, List.map_nil, D.shape, Sh.sub, Sh.size, List.getElem?_cons_zero, List.getElem?_cons_succ, Option.bind_some, Option.bind_none, Option.getD_some, Option.getD_none, V.keysIn, V.kill, V.has, decide_eq_true_eq, beq_iff_eq, bne_iff_ne, ne_eq, Bool.not_eq_true', Bool.and_true, Bool.and_self, Bool.true_and, if_true, if_false, reduceIte, Bool.false_eq_true, decide_true, decide_false, beq_self_eq_true, Bool.not_true, Bool.not_false, true_and, and_true, and_self, List.append_assoc, List.nil_append, List.cons_append, Int.toNat_natCast, ck, Int.cast_ofNat_Int, Int.reduceToNat, bne_self_eq_false, Bool.or_false, Bool.false_or, Bool.false_and, Bool.and_false, Bool.or_true, Bool.true_or]
    have e6 : evF Try.prog env xt (K+8) 150 [.d (lpX l.k.self l.k.up l.k.c (setN l.k.tD m T.d) (setN l.k.tP m T.p) l.r.d l.r.p l.r.n l.least l.act (hrW rs m l.wait (listTo rs 16).length) l.tell l.ask (setN l.reply m (bits .or .i64 (l.reply m) asq)))] = some (.d (lpD (anewF ⟨⟨l.k.self, l.k.up, l.k.c, setN l.k.tD m T.d, setN l.k.tP m T.p⟩, l.r, l.least, l.act, hrW rs m l.wait (listTo rs 16).length, l.tell, l.ask, setN l.reply m (bits .or .i64 (l.reply m) asq)⟩))) := anew_ev K ⟨⟨l.k.self, l.k.up, l.k.c, setN l.k.tD m T.d, setN l.k.tP m T.p⟩, l.r, l.least, l.act, hrW rs m l.wait (listTo rs 16).length, l.tell, l.ask, setN l.reply m (bits .or .i64 (l.reply m) asq)⟩
    generalize anewF ⟨⟨l.k.self, l.k.up, l.k.c, setN l.k.tD m T.d, setN l.k.tP m T.p⟩, l.r, l.least, l.act, hrW rs m l.wait (listTo rs 16).length, l.tell, l.ask, setN l.reply m (bits .or .i64 (l.reply m) asq)⟩ = q at e6 ⊢
    simp (decide := true) only [Int.lt_irrefl, e6, Try.f121, rid, kl121_6, ↓sBp, sBq, List.all_cons, List.all_nil, List.map_cons, List.map_nil, D.shape, Sh.sub, Sh.size, List.getElem?_cons_zero, List.getElem?_cons_succ, Option.bind_some, Option.bind_none, Option.getD_some, Option.getD_none, V.keysIn, V.kill, V.has, decide_eq_true_eq, beq_iff_eq, bne_iff_ne, ne_eq, Bool.not_eq_true', Bool.and_true, Bool.and_self, Bool.true_and, if_true, if_false, reduceIte, Bool.false_eq_true, decide_true, decide_false, beq_self_eq_true, Bool.not_true, Bool.not_false, true_and, and_true, and_self, List.append_assoc, List.nil_append, List.cons_append, Int.toNat_natCast, ck, Int.cast_ofNat_Int, Int.reduceToNat, bne_self_eq_false, Bool.or_false, Bool.false_or, Bool.false_and, Bool.and_false, Bool.or_true, Bool.true_or]
  · have e1 : heardF l n its = l := by unfold heardF; rw [if_neg (by rw [h2]; decide)]
    have e2 : lnE l n = 9 := by unfold lnE; rw [if_neg (by rw [h2]; decide)]
    rw [e1, e2]
    simp (decide := true) only [linked_ev, h2, Try.f121, rid, kl121_6, ↓sBp, sBq, List.all_cons, List.all_nil, List.map_cons, List.map_nil, D.shape, Sh.sub, Sh.size, List.getElem?_cons_zero, List.getElem?_cons_succ, Option.bind_some, Option.bind_none, Option.getD_some, Option.getD_none, V.keysIn, V.kill, V.has, decide_eq_true_eq, beq_iff_eq, bne_iff_ne, ne_eq, Bool.not_eq_true', Bool.and_true, Bool.and_self, Bool.true_and, if_true, if_false, reduceIte, Bool.false_eq_true, decide_true, decide_false, beq_self_eq_true, Bool.not_true, Bool.not_false, true_and, and_true, and_self, List.append_assoc, List.nil_append, List.cons_append, Int.toNat_natCast, ck, Int.cast_ofNat_Int, Int.reduceToNat, bne_self_eq_false, Bool.or_false, Bool.false_or, Bool.false_and, Bool.and_false, Bool.or_true, Bool.true_or]
theorem heard_ev (K : Nat) (l : LP) (n : Int) (its : List Itm) (hl : its.length < 1000000) : heardX xt (K+8) [.d (lpD l), .d (.s (.int .i64 (n))), .sl .ro shI (itms its)] = some (.tcons (.d (lpD (heardF l n its))) (.tcons (.d (.s (.int .i64 (lnE l n)))) .tnil)) :=
  heard_gen K l n its _ (fun _ => rfl) (fun d p => mapply_ev (K+5) d p its hl) (asked_ev (K+4) its hl) (replied_ev (K+4) its hl)
theorem heard_raw (K : Nat) (l : LP) (n : Int) (a : Option Addr) (c : Nat) : heardX xt (K+8) [.d (lpD l), .d (.s (.int .i64 (n))), .d (.s (.slice a 0 c))] = some (.tcons (.d (lpD (heardF l n []))) (.tcons (.d (.s (.int .i64 (lnE l n)))) .tnil)) :=
  heard_gen K l n [] _ (fun _ => rfl) (fun d p => mapply_raw (K+5) d p a c) (asked_raw (K+4) a c) (replied_raw (K+4) a c)
def newTo (v : Nat → Int) (k : Nat) : Nat → Nat → Int := upto (fun i t => setN t i v) (fun _ _ => 0) k
theorem newTo_succ (v : Nat → Int) (k : Nat) : newTo v (k + 1) = setN (newTo v k) k v := rfl
def newF (self : Int) : LP := ⟨⟨self, 0, fun _ => 0, newTo (putN farD (-1) 0) 16, newTo farP 16⟩, ⟨putN farD self 0, farP, farP⟩, putN farD self 0, 0, fun _ => 0, fun _ => 0, fun _ => 0, fun _ => 0⟩
theorem z101 : Z101 = lpX 0 0 (fun _ => 0) (fun _ _ => 0) (fun _ _ => 0) (fun _ => 0) (fun _ => 0) (fun _ => 0) (fun _ => 0) 0 (fun _ => 0) (fun _ => 0) (fun _ => 0) (fun _ => 0) := nr rfl
theorem lpNew_ev (K : Nat) (self : Int) : evF Try.prog env xt (K+4) 61 [.d (.s (.int .i64 (self)))] = some (.d (lpD (newF self))) := by
  rw [evF_eq Try.func61 (show Try.f61.body = some _ from rfl) rfl rfl (by show 1 ≤ 23; decide)]
  have e1 := empty_ev (K+1) self
  have e2 := fnew_ev (K+1) self
  simp (decide := true) only [e1, e2, z101, Try.f61, rid, kl61_4, ↓sBp, sBq, List.all_cons, List.all_nil, List.map_cons, List.map_nil, D.shape, Sh.sub, Sh.size, List.getElem?_cons_zero, List.getElem?_cons_succ, Option.bind_some, Option.bind_none, Option.getD_some, Option.getD_none, V.keysIn, V.kill, V.has, decide_eq_true_eq, beq_iff_eq, bne_iff_ne, ne_eq, Bool.not_eq_true', Bool.and_true, Bool.and_self, Bool.true_and, if_true, if_false, reduceIte, Bool.false_eq_true, decide_true, decide_false, beq_self_eq_true, Bool.not_true, Bool.not_false, true_and, and_true, and_self, List.append_assoc, List.nil_append, List.cons_append, Int.toNat_natCast, ck, Int.cast_ofNat_Int, Int.reduceToNat, bne_self_eq_false, Bool.or_false, Bool.false_or, Bool.false_and, Bool.and_false, Bool.or_true, Bool.true_or]
  rw [iter_run (S := fun k => ⟨tab .junk [(2, .ptr 2 (shL) [] (shL)), (3, .ptr 3 (shL) [] (shL)), (13, .d (.s (.int .i64 (k))))], tab none [(2, some (.box (lpX 0 0 (fun _ => 0) (fun _ _ => 0) (fun _ _ => 0) (fun _ => 0) (fun _ => 0) (fun _ => 0) (fun _ => 0) 0 (fun _ => 0) (fun _ => 0) (fun _ => 0) (fun _ => 0)))), (3, some (.box (lpX self 0 (fun _ => 0) (newTo (putN farD (-1) 0) k) (newTo farP k) (putN farD self 0) farP farP (putN farD self 0) 0 (fun _ => 0) (fun _ => 0) (fun _ => 0) (fun _ => 0))))]⟩) (n := 16) (h0 := ?h0) (hn := lt_loopFuel (by decide)) (step := ?step)]
  case h0 => rfl
  case step =>
    intro k hk
    have hk1 : (k : Int) < 16 := by omega
    have hk0 : (0 : Int) ≤ k := by omega
    have hkw := wrap_succ k (by omega)
    have e3 := newTo_succ (putN farD (-1) 0) k
    have e4 := newTo_succ farP k
    simp (decide := true) only [hk1, hk0, hkw, new_ev, setN_tree, e3, e4, Try.f61, rid, kl61_4, ↓sBp, sBq, List.all_cons, List.all_nil, List.map_cons, List.map_nil, D.shape, Sh.sub, Sh.size, List.getElem?_cons_zero, List.getElem?_cons_succ, Option.bind_some, Option.bind_none, Option.getD_some, Option.getD_none, V.keysIn, V.kill, V.has, decide_eq_true_eq, beq_iff_eq, bne_iff_ne, ne_eq, Bool.not_eq_true', Bool.and_true, Bool.and_self, Bool.true_and, if_true, if_false, reduceIte, Bool.false_eq_true, decide_true, decide_false, beq_self_eq_true, Bool.not_true, Bool.not_false, true_and, and_true, and_self, List.append_assoc, List.nil_append, List.cons_append, Int.toNat_natCast, ck, Int.cast_ofNat_Int, Int.reduceToNat, bne_self_eq_false, Bool.or_false, Bool.false_or, Bool.false_and, Bool.and_false, Bool.or_true, Bool.true_or]
  simp (decide := true) only [Try.f61, rid, kl61_4, ↓sBp, sBq, List.all_cons, List.all_nil, List.map_cons, List.map_nil, D.shape, Sh.sub, Sh.size, List.getElem?_cons_zero, List.getElem?_cons_succ, Option.bind_some, Option.bind_none, Option.getD_some, Option.getD_none, V.keysIn, V.kill, V.has, decide_eq_true_eq, beq_iff_eq, bne_iff_ne, ne_eq, Bool.not_eq_true', Bool.and_true, Bool.and_self, Bool.true_and, if_true, if_false, reduceIte, Bool.false_eq_true, decide_true, decide_false, beq_self_eq_true, Bool.not_true, Bool.not_false, true_and, and_true, and_self, List.append_assoc, List.nil_append, List.cons_append, Int.toNat_natCast, ck, Int.cast_ofNat_Int, Int.reduceToNat, bne_self_eq_false, Bool.or_false, Bool.false_or, Bool.false_and, Bool.and_false, Bool.or_true, Bool.true_or]
  rfl
end Go.Proofs.Ytfbaikkadndckaa.Ev
