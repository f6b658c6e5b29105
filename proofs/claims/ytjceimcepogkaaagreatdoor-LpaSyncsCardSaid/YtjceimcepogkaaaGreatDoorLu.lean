/- lpa.anew: the table made anew, round by round. -/
import Derived.Test.YtjceimcepogkaaaGreatDoorLr
namespace Go.Proofs.YtjceimcepogkaaaGreatDoor.Ev
open Go
attribute [local congr] ob_congr sq_congr cd_congr ite_congr1 iter_congr it1_congr jumps_congr
set_option maxRecDepth 100000
set_option linter.unusedSimpArgs false
set_option linter.unusedVariables false
section
variable (l : LP)
def dnF : Int := rdD l.act l.wait
def aF : Int := endA (dnF l) l.act (listTo (dnF l) 16).length
def wF : Nat → Int := endW (dnF l) l.wait (listTo (dnF l) 16).length
def leF : Nat → Int := resetF (dnF l) l.least
def rF : Rw := settleF l.k (aF l)
def blF : Int := blkF l.k (rF l).n (leF l)
def stF (up : Int) : PhS := stT up (blF l) ⟨aF l, wF l⟩ (listTo (blF l) 16).length
def roundF (up : Int) : LP := ⟨l.k, rF l, leF l, (stF l up).a, (stF l up).w, l.tell, upto (spread1 up (blF l)) l.ask 16, l.reply⟩
theorem roundL_ev (K : Nat) (up : Int) : evF Tryz.prog env xt (K+7) 112 [.d (lpD l), .d (.s (.int .i64 (up)))] = some (.tcons (.d (lpD (roundF l up))) (.tcons (.d (.s (.bool (blF l != 0)))) .tnil)) :=
  round_ev l.k.self l.k.up l.k.c l.k.tD l.k.tP l.r.d l.r.p l.r.n l.least l.act l.wait l.tell l.ask l.reply K up (dnF l) (aF l) (wF l) (leF l) (rF l) (blF l) (stF l up) _ rfl rfl rfl rfl rfl rfl rfl rfl
end
def rdTo (l : LP) (up : Int) (n : Nat) : LP := upto (fun _ l => roundF l up) l n
theorem rdTo_succ (l : LP) (up : Int) (n : Nat) : rdTo l up (n + 1) = roundF (rdTo l up n) up := rfl
theorem rdTo_k (l : LP) (up : Int) : ∀ n, (rdTo l up n).k = l.k ∧ (rdTo l up n).tell = l.tell ∧ (rdTo l up n).reply = l.reply
  | 0 => ⟨rfl, rfl, rfl⟩
  | n + 1 => by rw [rdTo_succ]; exact rdTo_k l up n
theorem anN_ex (l : LP) (up : Int) : ∃ k, k < 48 ∧ (blF (rdTo l up k) = 0 ∨ k = 47) ∧ ∀ i, i < k → ¬ (blF (rdTo l up i) = 0 ∨ i = 47) := first_of ⟨47, by omega, Or.inr rfl⟩
noncomputable def anN (l : LP) (up : Int) : Nat := Classical.choose (anN_ex l up)
theorem anN_ok (l : LP) (up : Int) : anN l up < 48 ∧ (blF (rdTo l up (anN l up)) = 0 ∨ anN l up = 47) ∧ ∀ i, i < anN l up → ¬ (blF (rdTo l up i) = 0 ∨ i = 47) := Classical.choose_spec (anN_ex l up)
noncomputable def lastF (l : LP) : LP := rdTo l (nb l.k.up) (anN l (nb l.k.up) + 1)
def finF (l m : LP) : LP := { m with least := lowF m.least m.r.d, tell := upto (spread1 (nb l.k.up) (chgF l.r.d l.r.p m.r.d m.r.p)) m.tell 16 }
noncomputable def anewF (l : LP) : LP := finF l (lastF l)
set_option maxHeartbeats 8000000 in
theorem anew_ev (K : Nat) (l : LP) : evF Tryz.prog env xt (K+8) 70 [.d (lpD l)] = some (.d (lpD (anewF l))) := by
  rw [evF_eq Tryz.func70 (show Tryz.f70.body = some _ from rfl) rfl rfl rfl (by show 1 ≤ 40; decide)]
  obtain ⟨hN, hend, hfirst⟩ := anN_ok l (nb l.k.up)
  have hl : lastF l = rdTo l (nb l.k.up) (anN l (nb l.k.up) + 1) := rfl
  generalize anN l (nb l.k.up) = N at hN hend hfirst hl
  have en := neigh_ev l.k.self l.k.up l.k.c l.k.tD l.k.tP l.r.d l.r.p l.r.n l.least l.act l.wait l.tell l.ask l.reply (K + 6)
  generalize hup : nb l.k.up = u at hend hfirst hl en
  have e0 := roundL_ev l K u
  have w01 : IntKind.i64.wrap (0 + 1) = 1 := rfl
  have fin : ∀ m : LP, m.k = l.k → m.tell = l.tell → m.reply = l.reply → evF Tryz.prog env xt (K+7) 113 [.d (arrU m.least), .d (rowsD m.r.d m.r.p m.r.n)] = some (.d (arrU (finF l m).least)) ∧ evF Tryz.prog env xt (K+7) 115 [.d (rowsD l.r.d l.r.p l.r.n), .d (rowsD m.r.d m.r.p m.r.n)] = some (.d (.s (.int .i64 (chgF l.r.d l.r.p m.r.d m.r.p)))) ∧
      evF Tryz.prog env xt (K+7) 114 [.d (arr16 m.tell), .d (.s (.int .i64 (u))), .d (.s (.int .i64 (chgF l.r.d l.r.p m.r.d m.r.p)))] = some (.d (arr16 (finF l m).tell)) := fun m _ _ _ =>
    ⟨lower_ev (K+5) m.least m.r.d m.r.p m.r.n, changed_ev (K+4) _ _ _ _ _ _, by subst hup; exact spread_ev (K+4) m.tell _ _⟩
  by_cases hz : N = 0
  · subst hz
    have hb : (blF l != 0) = false := by
      rcases hend with h | h
      · have h : blF l = 0 := h
        rw [h]; rfl
      · omega
    have hl : lastF l = roundF l u := hl
    obtain ⟨f1, f2, f3⟩ := fin (roundF l u) rfl rfl rfl
    have ha : anewF l = finF l (roundF l u) := by unfold anewF; rw [hl]
    rw [ha]
    generalize roundF l u = m at e0 f1 f2 f3
    simp (decide := true) only [en, e0, hb, f1, f2, f3, Tryz.f70, rid, dp70_1, dp70_7, gl70_0, ↓sBp, sBq, List.all_cons, List.all_nil, List.map_cons, List.map_nil, D.shape, Sh.sub, Sh.size, List.getElem?_cons_zero, List.getElem?_cons_succ, Option.bind_some, Option.bind_none, Option.getD_some, Option.getD_none, V.keysIn, V.kill, V.has, decide_eq_true_eq, beq_iff_eq, bne_iff_ne, ne_eq, Bool.not_eq_true', Bool.and_true, Bool.and_self, Bool.true_and, if_true, if_false, reduceIte, Bool.false_eq_true, decide_true, decide_false, beq_self_eq_true, Bool.not_true, Bool.not_false, true_and, and_true, and_self, List.append_assoc, List.nil_append, List.cons_append, Int.toNat_natCast, ck, Int.cast_ofNat_Int, Int.reduceToNat, bne_self_eq_false, Bool.or_false, Bool.false_or, Bool.false_and, Bool.and_false, Bool.or_true, Bool.true_or]
    rfl
  · have hb : (blF l != 0) = true := by
      have := hfirst 0 (by omega)
      have h : ¬ blF l = 0 := fun e => this (Or.inl e)
      simpa using h
    simp (decide := true) only [en, e0, hb, w01, Tryz.f70, rid, dp70_1, dp70_7, gl70_0, ↓sBp, sBq, List.all_cons, List.all_nil, List.map_cons, List.map_nil, D.shape, Sh.sub, Sh.size, List.getElem?_cons_zero, List.getElem?_cons_succ, Option.bind_some, Option.bind_none, Option.getD_some, Option.getD_none, V.keysIn, V.kill, V.has, decide_eq_true_eq, beq_iff_eq, bne_iff_ne, ne_eq, Bool.not_eq_true', Bool.and_true, Bool.and_self, Bool.true_and, if_true, if_false, reduceIte, Bool.false_eq_true, decide_true, decide_false, beq_self_eq_true, Bool.not_true, Bool.not_false, true_and, and_true, and_self, List.append_assoc, List.nil_append, List.cons_append, Int.toNat_natCast, ck, Int.cast_ofNat_Int, Int.reduceToNat, bne_self_eq_false, Bool.or_false, Bool.false_or, Bool.false_and, Bool.and_false, Bool.or_true, Bool.true_or]
    rw [jumps_run (l := 0) (S := fun t => ⟨tab .junk [(1, .ptr 1 (shL) [] (shL)), (2, .ptr 2 (shL) [] (shL)), (3, .ptr 3 (shRs) [] (shRs)), (4, .d (.s (.int .i64 (u)))), (5, .d (.s (.int .i64 ((t + 1 : Nat)))))], tab none [(1, some (.box (lpD (rdTo l u (t + 1))))), (2, some (.box (Z45))), (3, some (.box (rowsD l.r.d l.r.p l.r.n))), (10, none)]⟩) (n := N - 1) (h0 := ?h0) (hl := rfl) (hn := by omega) (step := ?step)]
    case h0 => rfl
    case step =>
      intro t ht
      have e1 := roundL_ev (rdTo l u (t + 1)) K u
      have hb1 : (blF (rdTo l u (t + 1)) != 0) = true := by
        have := hfirst (t + 1) (by omega)
        have h : ¬ blF (rdTo l u (t + 1)) = 0 := fun e => this (Or.inl e)
        simpa using h
      have es : rdTo l u (t + 1 + 1) = roundF (rdTo l u (t + 1)) u := rfl
      rw [es]
      generalize rdTo l u (t + 1) = m at e1 hb1
      generalize roundF m u = m' at e1
      have hw := wrap_succ (t + 1) (by omega)
      have hlt : ((t + 1 + 1 : Nat) : Int) < 48 := by omega
      simp (decide := true) only [e1, hb1, hw, hlt, Tryz.f70, rid, dp70_1, dp70_7, gl70_0, ↓sBp, sBq, List.all_cons, List.all_nil, List.map_cons, List.map_nil, D.shape, Sh.sub, Sh.size, List.getElem?_cons_zero, List.getElem?_cons_succ, Option.bind_some, Option.bind_none, Option.getD_some, Option.getD_none, V.keysIn, V.kill, V.has, decide_eq_true_eq, beq_iff_eq, bne_iff_ne, ne_eq, Bool.not_eq_true', Bool.and_true, Bool.and_self, Bool.true_and, if_true, if_false, reduceIte, Bool.false_eq_true, decide_true, decide_false, beq_self_eq_true, Bool.not_true, Bool.not_false, true_and, and_true, and_self, List.append_assoc, List.nil_append, List.cons_append, Int.toNat_natCast, ck, Int.cast_ofNat_Int, Int.reduceToNat, bne_self_eq_false, Bool.or_false, Bool.false_or, Bool.false_and, Bool.and_false, Bool.or_true, Bool.true_or]
    have hNN : N - 1 + 1 = N := by omega
    rw [hNN]
    have e1 := roundL_ev (rdTo l u N) K u
    obtain ⟨k1, k2, k3⟩ := rdTo_k l u (N + 1)
    obtain ⟨f1, f2, f3⟩ := fin (rdTo l u (N + 1)) k1 k2 k3
    have es : roundF (rdTo l u N) u = rdTo l u (N + 1) := rfl
    rw [es] at e1
    have ha : anewF l = finF l (rdTo l u (N + 1)) := by unfold anewF; rw [hl]
    rw [ha]
    generalize rdTo l u (N + 1) = m at e1 f1 f2 f3
    have hw := wrap_succ N (by omega)
    rcases hend with h | h
    · have hb1 : (blF (rdTo l u N) != 0) = false := by rw [h]; rfl
      generalize rdTo l u N = m0 at e1 hb1
      simp (decide := true) only [e1, hb1, hw, f1, f2, f3, Tryz.f70, rid, dp70_1, dp70_7, gl70_0, ↓sBp, sBq, List.all_cons, List.all_nil, List.map_cons, List.map_nil, D.shape, Sh.sub, Sh.size, List.getElem?_cons_zero, List.getElem?_cons_succ, Option.bind_some, Option.bind_none, Option.getD_some, Option.getD_none, V.keysIn, V.kill, V.has, decide_eq_true_eq, beq_iff_eq, bne_iff_ne, ne_eq, Bool.not_eq_true', Bool.and_true, Bool.and_self, Bool.true_and, if_true, if_false, reduceIte, Bool.false_eq_true, decide_true, decide_false, beq_self_eq_true, Bool.not_true, Bool.not_false, true_and, and_true, and_self, List.append_assoc, List.nil_append, List.cons_append, Int.toNat_natCast, ck, Int.cast_ofNat_Int, Int.reduceToNat, bne_self_eq_false, Bool.or_false, Bool.false_or, Bool.false_and, Bool.and_false, Bool.or_true, Bool.true_or]
      rfl
    · have hlt : ¬ ((N + 1 : Nat) : Int) < 48 := by omega
      rcases Bool.eq_false_or_eq_true (blF (rdTo l u N) != 0) with hb1 | hb1
      · generalize rdTo l u N = m0 at e1 hb1
        simp (decide := true) only [e1, hb1, hw, hlt, f1, f2, f3, Tryz.f70, rid, dp70_1, dp70_7, gl70_0, ↓sBp, sBq, List.all_cons, List.all_nil, List.map_cons, List.map_nil, D.shape, Sh.sub, Sh.size, List.getElem?_cons_zero, List.getElem?_cons_succ, Option.bind_some, Option.bind_none, Option.getD_some, Option.getD_none, V.keysIn, V.kill, V.has, decide_eq_true_eq, beq_iff_eq, bne_iff_ne, ne_eq, Bool.not_eq_true', Bool.and_true, Bool.and_self, Bool.true_and, if_true, if_false, reduceIte, Bool.false_eq_true, decide_true, decide_false, beq_self_eq_true, Bool.not_true, Bool.not_false, true_and, and_true, and_self, List.append_assoc, List.nil_append, List.cons_append, Int.toNat_natCast, ck, Int.cast_ofNat_Int, Int.reduceToNat, bne_self_eq_false, Bool.or_false, Bool.false_or, Bool.false_and, Bool.and_false, Bool.or_true, Bool.true_or]
        rfl
      · generalize rdTo l u N = m0 at e1 hb1
        simp (decide := true) only [e1, hb1, hw, hlt, f1, f2, f3, Tryz.f70, rid, dp70_1, dp70_7, gl70_0, ↓sBp, sBq, List.all_cons, List.all_nil, List.map_cons, List.map_nil, D.shape, Sh.sub, Sh.size, List.getElem?_cons_zero, List.getElem?_cons_succ, Option.bind_some, Option.bind_none, Option.getD_some, Option.getD_none, V.keysIn, V.kill, V.has, decide_eq_true_eq, beq_iff_eq, bne_iff_ne, ne_eq, Bool.not_eq_true', Bool.and_true, Bool.and_self, Bool.true_and, if_true, if_false, reduceIte, Bool.false_eq_true, decide_true, decide_false, beq_self_eq_true, Bool.not_true, Bool.not_false, true_and, and_true, and_self, List.append_assoc, List.nil_append, List.cons_append, Int.toNat_natCast, ck, Int.cast_ofNat_Int, Int.reduceToNat, bne_self_eq_false, Bool.or_false, Bool.false_or, Bool.false_and, Bool.and_false, Bool.or_true, Bool.true_or]
        rfl
end Go.Proofs.YtjceimcepogkaaaGreatDoor.Ev
/- What the functions of lpa compute: links, what is heard, what is drained, a new node. -/
namespace Go.Proofs.YtjceimcepogkaaaGreatDoor.Ev
open Go
attribute [local congr] ob_congr sq_congr cd_congr ite_congr1 iter_congr it1_congr jumps_congr
set_option maxRecDepth 100000
set_option linter.unusedSimpArgs false
set_option linter.unusedVariables false
theorem set_ok (K : Nat) (up : Int) (c : Nat → Int) (n cost : Int) (h : costOk n cost = true) : evF Tryz.prog env xt (K+3) 67 [.d (costsD up c), .d (.s (.int .i64 (n))), .d (.s (.int .u32 (cost)))] = some (.tcons (.d (costsD (withN up n) (setN c n.toNat cost))) (.tcons (.d (.s (.int .i64 (0)))) .tnil)) := by
  rw [set_ev, if_pos h, if_pos h]
theorem set_no (K : Nat) (up : Int) (c : Nat → Int) (n cost : Int) (h : costOk n cost = false) : evF Tryz.prog env xt (K+3) 67 [.d (costsD up c), .d (.s (.int .i64 (n))), .d (.s (.int .u32 (cost)))] = some (.tcons (.d (costsD up c)) (.tcons (.d (.s (.int .i64 (1)))) .tnil)) := by
  rw [set_ev, if_neg (by rw [h]; decide), if_neg (by rw [h]; decide)]
theorem cutC_ev (K : Nat) (up : Int) (c : Nat → Int) (n : Int) (h : right n = true) : evF Tryz.prog env xt (K+3) 77 [.d (costsD up c), .d (.s (.int .i64 (n)))] = some (.d (costsD (withoutN up n) (setN c n.toNat 0))) := by
  rw [cut_ev, if_pos h]
theorem costOk_right {n c : Int} (h : costOk n c = true) : right n = true := by
  unfold costOk at h
  rw [Bool.and_eq_true] at h
  exact h.1
def upG (l : LP) (n cost : Int) : LP :=
  ⟨⟨l.k.self, withN l.k.up n, setN l.k.c n.toNat cost, setN l.k.tD n.toNat (putN farD (-1) 0), setN l.k.tP n.toNat farP⟩, l.r, l.least, l.act, l.wait, setN (clear l.tell n) n.toNat (reached (cut l.r.d)), clear l.ask n, clear l.reply n⟩
def upO (l : LP) (n cost : Int) : Bool := !(n == l.k.self) && (!has (nb l.k.up) n && costOk n cost)
def upE (l : LP) (n cost : Int) : Int := if (n == l.k.self) = true then 1 else if has (nb l.k.up) n = true then 10 else if costOk n cost = true then 0 else 1
noncomputable def upF (l : LP) (n cost : Int) : LP := if upO l n cost = true then anewF (upG l n cost) else l
theorem lpUp_ev (K : Nat) (l : LP) (n cost : Int) : evF Tryz.prog env xt (K+9) 20 [.d (lpD l), .d (.s (.int .i64 (n))), .d (.s (.int .u32 (cost)))] = some (.tcons (.d (lpD (upF l n cost))) (.tcons (.d (.s (.int .i64 (upE l n cost)))) .tnil)) := by
  rw [evF_eq Tryz.func20 (show Tryz.f20.body = some _ from rfl) rfl rfl rfl (by show 3 ≤ 48; decide)]
  rcases Bool.eq_false_or_eq_true (n == l.k.self) with h1 | h1
  · have e1 : upF l n cost = l := by unfold upF upO; rw [h1]; rfl
    have e2 : upE l n cost = 1 := by unfold upE; rw [if_pos h1]
    rw [e1, e2]
    simp (decide := true) only [h1, Tryz.f20, rid, ↓sBp, sBq, List.all_cons, List.all_nil, List.map_cons, List.map_nil, D.shape, Sh.sub, Sh.size, List.getElem?_cons_zero, List.getElem?_cons_succ, Option.bind_some, Option.bind_none, Option.getD_some, Option.getD_none, V.keysIn, V.kill, V.has, decide_eq_true_eq, beq_iff_eq, bne_iff_ne, ne_eq, Bool.not_eq_true', Bool.and_true, Bool.and_self, Bool.true_and, if_true, if_false, reduceIte, Bool.false_eq_true, decide_true, decide_false, beq_self_eq_true, Bool.not_true, Bool.not_false, true_and, and_true, and_self, List.append_assoc, List.nil_append, List.cons_append, Int.toNat_natCast, ck, Int.cast_ofNat_Int, Int.reduceToNat, bne_self_eq_false, Bool.or_false, Bool.false_or, Bool.false_and, Bool.and_false, Bool.or_true, Bool.true_or]
  rcases Bool.eq_false_or_eq_true (has (nb l.k.up) n) with h2 | h2
  · have e1 : upF l n cost = l := by unfold upF upO; rw [h1, h2]; rfl
    have e2 : upE l n cost = 10 := by unfold upE; rw [if_neg (by rw [h1]; decide), if_pos h2]
    rw [e1, e2]
    simp (decide := true) only [h1, linked_ev, h2, Tryz.f20, rid, ↓sBp, sBq, List.all_cons, List.all_nil, List.map_cons, List.map_nil, D.shape, Sh.sub, Sh.size, List.getElem?_cons_zero, List.getElem?_cons_succ, Option.bind_some, Option.bind_none, Option.getD_some, Option.getD_none, V.keysIn, V.kill, V.has, decide_eq_true_eq, beq_iff_eq, bne_iff_ne, ne_eq, Bool.not_eq_true', Bool.and_true, Bool.and_self, Bool.true_and, if_true, if_false, reduceIte, Bool.false_eq_true, decide_true, decide_false, beq_self_eq_true, Bool.not_true, Bool.not_false, true_and, and_true, and_self, List.append_assoc, List.nil_append, List.cons_append, Int.toNat_natCast, ck, Int.cast_ofNat_Int, Int.reduceToNat, bne_self_eq_false, Bool.or_false, Bool.false_or, Bool.false_and, Bool.and_false, Bool.or_true, Bool.true_or]
  rcases Bool.eq_false_or_eq_true (costOk n cost) with h3 | h3
  · have e1 : upF l n cost = anewF (upG l n cost) := by unfold upF upO; rw [h1, h2, h3]; rfl
    have e2 : upE l n cost = 0 := by unfold upE; rw [if_neg (by rw [h1]; decide), if_neg (by rw [h2]; decide), if_pos h3]
    rw [e1, e2]
    have hr := costOk_right h3
    have hr2 := right_nn hr
    have e3 := set_ok (K+5) l.k.up l.k.c n cost h3
    have e4 := forget_ev l.k.self (withN l.k.up n) (setN l.k.c n.toNat cost) l.k.tD l.k.tP l.r.d l.r.p l.r.n l.least l.act l.wait l.tell l.ask l.reply (K+4) n hr
    have e5 : evF Tryz.prog env xt (K+8) 70 [.d (lpX l.k.self (withN l.k.up n) (setN l.k.c n.toNat cost) (setN l.k.tD n.toNat (putN farD (-1) 0)) (setN l.k.tP n.toNat farP) l.r.d l.r.p l.r.n l.least l.act l.wait (setN (clear l.tell n) n.toNat (reached (cut l.r.d))) (clear l.ask n) (clear l.reply n))] = some (.d (lpD (anewF (upG l n cost)))) := anew_ev K (upG l n cost)
    generalize anewF (upG l n cost) = m at e5
    simp (decide := true) only [h1, linked_ev, h2, e3, e4, hr2, tree_ev, reached_ev, setN_int, e5, Tryz.f20, rid, ↓sBp, sBq, List.all_cons, List.all_nil, List.map_cons, List.map_nil, D.shape, Sh.sub, Sh.size, List.getElem?_cons_zero, List.getElem?_cons_succ, Option.bind_some, Option.bind_none, Option.getD_some, Option.getD_none, V.keysIn, V.kill, V.has, decide_eq_true_eq, beq_iff_eq, bne_iff_ne, ne_eq, Bool.not_eq_true', Bool.and_true, Bool.and_self, Bool.true_and, if_true, if_false, reduceIte, Bool.false_eq_true, decide_true, decide_false, beq_self_eq_true, Bool.not_true, Bool.not_false, true_and, and_true, and_self, List.append_assoc, List.nil_append, List.cons_append, Int.toNat_natCast, ck, Int.cast_ofNat_Int, Int.reduceToNat, bne_self_eq_false, Bool.or_false, Bool.false_or, Bool.false_and, Bool.and_false, Bool.or_true, Bool.true_or]
  · have e1 : upF l n cost = l := by unfold upF upO; rw [h1, h2, h3]; rfl
    have e2 : upE l n cost = 1 := by unfold upE; rw [if_neg (by rw [h1]; decide), if_neg (by rw [h2]; decide), if_neg (by rw [h3]; decide)]
    rw [e1, e2]
    have e3 := set_no (K+5) l.k.up l.k.c n cost h3
    simp (decide := true) only [h1, linked_ev, h2, e3, Tryz.f20, rid, ↓sBp, sBq, List.all_cons, List.all_nil, List.map_cons, List.map_nil, D.shape, Sh.sub, Sh.size, List.getElem?_cons_zero, List.getElem?_cons_succ, Option.bind_some, Option.bind_none, Option.getD_some, Option.getD_none, V.keysIn, V.kill, V.has, decide_eq_true_eq, beq_iff_eq, bne_iff_ne, ne_eq, Bool.not_eq_true', Bool.and_true, Bool.and_self, Bool.true_and, if_true, if_false, reduceIte, Bool.false_eq_true, decide_true, decide_false, beq_self_eq_true, Bool.not_true, Bool.not_false, true_and, and_true, and_self, List.append_assoc, List.nil_append, List.cons_append, Int.toNat_natCast, ck, Int.cast_ofNat_Int, Int.reduceToNat, bne_self_eq_false, Bool.or_false, Bool.false_or, Bool.false_and, Bool.and_false, Bool.or_true, Bool.true_or]
def dnG (l : LP) (n : Int) : LP :=
  ⟨⟨l.k.self, withoutN l.k.up n, setN l.k.c n.toNat 0, setN l.k.tD n.toNat (putN farD (-1) 0), setN l.k.tP n.toNat farP⟩, l.r, l.least, l.act, upto (fun k w => replyW k n w) l.wait 16, clear l.tell n, clear l.ask n, clear l.reply n⟩
noncomputable def downF (l : LP) (n : Int) : LP := if has (nb l.k.up) n = true then anewF (dnG l n) else l
def lnE (l : LP) (n : Int) : Int := if has (nb l.k.up) n = true then 0 else 9
theorem lpDown_ev (K : Nat) (l : LP) (n : Int) : evF Tryz.prog env xt (K+9) 26 [.d (lpD l), .d (.s (.int .i64 (n)))] = some (.tcons (.d (lpD (downF l n))) (.tcons (.d (.s (.int .i64 (lnE l n)))) .tnil)) := by
  rw [evF_eq Tryz.func26 (show Tryz.f26.body = some _ from rfl) rfl rfl rfl (by show 2 ≤ 28; decide)]
  rcases Bool.eq_false_or_eq_true (has (nb l.k.up) n) with h2 | h2
  · have e1 : downF l n = anewF (dnG l n) := by unfold downF; rw [if_pos h2]
    have e2 : lnE l n = 0 := by unfold lnE; rw [if_pos h2]
    rw [e1, e2]
    have hr := has_right h2
    have e3 := cutC_ev (K+5) l.k.up l.k.c n hr
    have e4 := forget_ev l.k.self (withoutN l.k.up n) (setN l.k.c n.toNat 0) l.k.tD l.k.tP l.r.d l.r.p l.r.n l.least l.act l.wait l.tell l.ask l.reply (K+4) n hr
    have e5 : evF Tryz.prog env xt (K+8) 70 [.d (lpX l.k.self (withoutN l.k.up n) (setN l.k.c n.toNat 0) (setN l.k.tD n.toNat (putN farD (-1) 0)) (setN l.k.tP n.toNat farP) l.r.d l.r.p l.r.n l.least l.act (upto (fun k w => replyW k n w) l.wait 16) (clear l.tell n) (clear l.ask n) (clear l.reply n))] = some (.d (lpD (anewF (dnG l n)))) := anew_ev K (dnG l n)
    generalize anewF (dnG l n) = m at e5
    simp (decide := true) only [linked_ev, h2, e3, e4, gone_ev, e5, Tryz.f26, rid, ↓sBp, sBq, List.all_cons, List.all_nil, List.map_cons, List.map_nil, D.shape, Sh.sub, Sh.size, List.getElem?_cons_zero, List.getElem?_cons_succ, Option.bind_some, Option.bind_none, Option.getD_some, Option.getD_none, V.keysIn, V.kill, V.has, decide_eq_true_eq, beq_iff_eq, bne_iff_ne, ne_eq, Bool.not_eq_true', Bool.and_true, Bool.and_self, Bool.true_and, if_true, if_false, reduceIte, Bool.false_eq_true, decide_true, decide_false, beq_self_eq_true, Bool.not_true, Bool.not_false, true_and, and_true, and_self, List.append_assoc, List.nil_append, List.cons_append, Int.toNat_natCast, ck, Int.cast_ofNat_Int, Int.reduceToNat, bne_self_eq_false, Bool.or_false, Bool.false_or, Bool.false_and, Bool.and_false, Bool.or_true, Bool.true_or]
  · have e1 : downF l n = l := by unfold downF; rw [if_neg (by rw [h2]; decide)]
    have e2 : lnE l n = 9 := by unfold lnE; rw [if_neg (by rw [h2]; decide)]
    rw [e1, e2]
    simp (decide := true) only [linked_ev, h2, Tryz.f26, rid, ↓sBp, sBq, List.all_cons, List.all_nil, List.map_cons, List.map_nil, D.shape, Sh.sub, Sh.size, List.getElem?_cons_zero, List.getElem?_cons_succ, Option.bind_some, Option.bind_none, Option.getD_some, Option.getD_none, V.keysIn, V.kill, V.has, decide_eq_true_eq, beq_iff_eq, bne_iff_ne, ne_eq, Bool.not_eq_true', Bool.and_true, Bool.and_self, Bool.true_and, if_true, if_false, reduceIte, Bool.false_eq_true, decide_true, decide_false, beq_self_eq_true, Bool.not_true, Bool.not_false, true_and, and_true, and_self, List.append_assoc, List.nil_append, List.cons_append, Int.toNat_natCast, ck, Int.cast_ofNat_Int, Int.reduceToNat, bne_self_eq_false, Bool.or_false, Bool.false_or, Bool.false_and, Bool.and_false, Bool.or_true, Bool.true_or]
def coG (l : LP) (n cost : Int) : LP := ⟨⟨l.k.self, withN l.k.up n, setN l.k.c n.toNat cost, l.k.tD, l.k.tP⟩, l.r, l.least, l.act, l.wait, l.tell, l.ask, l.reply⟩
noncomputable def costF (l : LP) (n cost : Int) : LP := if (has (nb l.k.up) n && costOk n cost) = true then anewF (coG l n cost) else l
def coE (l : LP) (n cost : Int) : Int := if has (nb l.k.up) n = true then (if costOk n cost = true then 0 else 1) else 9
theorem lpCost_ev (K : Nat) (l : LP) (n cost : Int) : evF Tryz.prog env xt (K+9) 27 [.d (lpD l), .d (.s (.int .i64 (n))), .d (.s (.int .u32 (cost)))] = some (.tcons (.d (lpD (costF l n cost))) (.tcons (.d (.s (.int .i64 (coE l n cost)))) .tnil)) := by
  rw [evF_eq Tryz.func27 (show Tryz.f27.body = some _ from rfl) rfl rfl rfl (by show 3 ≤ 33; decide)]
  rcases Bool.eq_false_or_eq_true (has (nb l.k.up) n) with h2 | h2
  · rcases Bool.eq_false_or_eq_true (costOk n cost) with h3 | h3
    · have e1 : costF l n cost = anewF (coG l n cost) := by unfold costF; rw [h2, h3]; rfl
      have e2 : coE l n cost = 0 := by unfold coE; rw [if_pos h2, if_pos h3]
      rw [e1, e2]
      have e3 := set_ok (K+5) l.k.up l.k.c n cost h3
      have e5 : evF Tryz.prog env xt (K+8) 70 [.d (lpX l.k.self (withN l.k.up n) (setN l.k.c n.toNat cost) l.k.tD l.k.tP l.r.d l.r.p l.r.n l.least l.act l.wait l.tell l.ask l.reply)] = some (.d (lpD (anewF (coG l n cost)))) := anew_ev K (coG l n cost)
      generalize anewF (coG l n cost) = m at e5
      simp (decide := true) only [linked_ev, h2, e3, e5, Tryz.f27, rid, ↓sBp, sBq, List.all_cons, List.all_nil, List.map_cons, List.map_nil, D.shape, Sh.sub, Sh.size, List.getElem?_cons_zero, List.getElem?_cons_succ, Option.bind_some, Option.bind_none, Option.getD_some, Option.getD_none, V.keysIn, V.kill, V.has, decide_eq_true_eq, beq_iff_eq, bne_iff_ne, ne_eq, Bool.not_eq_true', Bool.and_true, Bool.and_self, Bool.true_and, if_true, if_false, reduceIte, Bool.false_eq_true, decide_true, decide_false, beq_self_eq_true, Bool.not_true, Bool.not_false, true_and, and_true, and_self, List.append_assoc, List.nil_append, List.cons_append, Int.toNat_natCast, ck, Int.cast_ofNat_Int, Int.reduceToNat, bne_self_eq_false, Bool.or_false, Bool.false_or, Bool.false_and, Bool.and_false, Bool.or_true, Bool.true_or]
    · have e1 : costF l n cost = l := by unfold costF; rw [h2, h3]; rfl
      have e2 : coE l n cost = 1 := by unfold coE; rw [if_pos h2, if_neg (by rw [h3]; decide)]
      rw [e1, e2]
      have e3 := set_no (K+5) l.k.up l.k.c n cost h3
      simp (decide := true) only [linked_ev, h2, e3, Tryz.f27, rid, ↓sBp, sBq, List.all_cons, List.all_nil, List.map_cons, List.map_nil, D.shape, Sh.sub, Sh.size, List.getElem?_cons_zero, List.getElem?_cons_succ, Option.bind_some, Option.bind_none, Option.getD_some, Option.getD_none, V.keysIn, V.kill, V.has, decide_eq_true_eq, beq_iff_eq, bne_iff_ne, ne_eq, Bool.not_eq_true', Bool.and_true, Bool.and_self, Bool.true_and, if_true, if_false, reduceIte, Bool.false_eq_true, decide_true, decide_false, beq_self_eq_true, Bool.not_true, Bool.not_false, true_and, and_true, and_self, List.append_assoc, List.nil_append, List.cons_append, Int.toNat_natCast, ck, Int.cast_ofNat_Int, Int.reduceToNat, bne_self_eq_false, Bool.or_false, Bool.false_or, Bool.false_and, Bool.and_false, Bool.or_true, Bool.true_or]
  · have e1 : costF l n cost = l := by unfold costF; rw [h2]; rfl
    have e2 : coE l n cost = 9 := by unfold coE; rw [if_neg (by rw [h2]; decide)]
    rw [e1, e2]
    simp (decide := true) only [linked_ev, h2, Tryz.f27, rid, ↓sBp, sBq, List.all_cons, List.all_nil, List.map_cons, List.map_nil, D.shape, Sh.sub, Sh.size, List.getElem?_cons_zero, List.getElem?_cons_succ, Option.bind_some, Option.bind_none, Option.getD_some, Option.getD_none, V.keysIn, V.kill, V.has, decide_eq_true_eq, beq_iff_eq, bne_iff_ne, ne_eq, Bool.not_eq_true', Bool.and_true, Bool.and_self, Bool.true_and, if_true, if_false, reduceIte, Bool.false_eq_true, decide_true, decide_false, beq_self_eq_true, Bool.not_true, Bool.not_false, true_and, and_true, and_self, List.append_assoc, List.nil_append, List.cons_append, Int.toNat_natCast, ck, Int.cast_ofNat_Int, Int.reduceToNat, bne_self_eq_false, Bool.or_false, Bool.false_or, Bool.false_and, Bool.and_false, Bool.or_true, Bool.true_or]
def anyF (l : Nat → Int) : Int := upto (any1 l) 0 16
theorem anyF_ev (K : Nat) (l : Nat → Int) : evF Tryz.prog env xt (K+3) 104 [.d (arr16 l)] = some (.d (.s (.int .i64 (anyF l)))) := any_ev K l
def dueF (l : LP) : Int := bits .or .i64 (bits .or .i64 (anyF l.tell) (anyF l.ask)) (anyF l.reply)
theorem due_ev (K : Nat) (l : LP) : evF Tryz.prog env xt (K+4) 57 [.d (lpD l)] = some (.d (.s (.int .i64 (dueF l)))) := by
  rw [evF_eq Tryz.func57 (show Tryz.f57.body = some _ from rfl) rfl rfl rfl (by show 1 ≤ 14; decide)]
  simp (decide := true) only [anyF_ev, dueF, Tryz.f57, rid, dp57_1, ↓sBp, sBq, List.all_cons, List.all_nil, List.map_cons, List.map_nil, D.shape, Sh.sub, Sh.size, List.getElem?_cons_zero, List.getElem?_cons_succ, Option.bind_some, Option.bind_none, Option.getD_some, Option.getD_none, V.keysIn, V.kill, V.has, decide_eq_true_eq, beq_iff_eq, bne_iff_ne, ne_eq, Bool.not_eq_true', Bool.and_true, Bool.and_self, Bool.true_and, if_true, if_false, reduceIte, Bool.false_eq_true, decide_true, decide_false, beq_self_eq_true, Bool.not_true, Bool.not_false, true_and, and_true, and_self, List.append_assoc, List.nil_append, List.cons_append, Int.toNat_natCast, ck, Int.cast_ofNat_Int, Int.reduceToNat, bne_self_eq_false, Bool.or_false, Bool.false_or, Bool.false_and, Bool.and_false, Bool.or_true, Bool.true_or]
theorem pending_ev (K : Nat) (l : LP) (n : Int) : evF Tryz.prog env xt (K+5) 28 [.d (lpD l), .d (.s (.int .i64 (n)))] = some (.d (.s (.bool (has (dueF l) n)))) := by
  rw [evF_eq Tryz.func28 (show Tryz.f28.body = some _ from rfl) rfl rfl rfl (by show 2 ≤ 9; decide)]
  have e := due_ev K l
  simp (decide := true) only [e, has_ev, Tryz.f28, rid, ↓sBp, sBq, List.all_cons, List.all_nil, List.map_cons, List.map_nil, D.shape, Sh.sub, Sh.size, List.getElem?_cons_zero, List.getElem?_cons_succ, Option.bind_some, Option.bind_none, Option.getD_some, Option.getD_none, V.keysIn, V.kill, V.has, decide_eq_true_eq, beq_iff_eq, bne_iff_ne, ne_eq, Bool.not_eq_true', Bool.and_true, Bool.and_self, Bool.true_and, if_true, if_false, reduceIte, Bool.false_eq_true, decide_true, decide_false, beq_self_eq_true, Bool.not_true, Bool.not_false, true_and, and_true, and_self, List.append_assoc, List.nil_append, List.cons_append, Int.toNat_natCast, ck, Int.cast_ofNat_Int, Int.reduceToNat, bne_self_eq_false, Bool.or_false, Bool.false_or, Bool.false_and, Bool.and_false, Bool.or_true, Bool.true_or]
def hushG (l : LP) (n : Int) : LP := ⟨l.k, l.r, l.least, l.act, l.wait, clear l.tell n, clear l.ask n, clear l.reply n⟩
def drainF (l : LP) (n : Int) : LP := if has (dueF l) n = true then hushG l n else l
def drainI (l : LP) (n : Int) : List D := if has (dueF l) n = true then itemsTo (cut l.r.d) (cut l.r.p) (l.tell n.toNat) (l.ask n.toNat) (l.reply n.toNat) 16 else []
theorem drain_ev (K : Nat) (l : LP) (n : Int) : evF Tryz.prog env xt (K+6) 21 [.d (lpD l), .d (.s (.int .i64 (n)))] = some (.tcons (.d (lpD (drainF l n))) (.tcons (.sl .ro shI (drainI l n)) .tnil)) := by
  rw [evF_eq Tryz.func21 (show Tryz.f21.body = some _ from rfl) rfl rfl rfl (by show 2 ≤ 32; decide)]
  have e := pending_ev K l n
  rcases Bool.eq_false_or_eq_true (has (dueF l) n) with h2 | h2
  · have e1 : drainF l n = hushG l n := by unfold drainF; rw [if_pos h2]
    have e2 : drainI l n = itemsTo (cut l.r.d) (cut l.r.p) (l.tell n.toNat) (l.ask n.toNat) (l.reply n.toNat) 16 := by unfold drainI; rw [if_pos h2]
    rw [e1, e2]
    have hr := right_nn (has_right h2)
    simp (decide := true) only [e, h2, hr, tree_ev, items_ev, hush_ev, Tryz.f21, rid, dp21_3, ↓sBp, sBq, List.all_cons, List.all_nil, List.map_cons, List.map_nil, D.shape, Sh.sub, Sh.size, List.getElem?_cons_zero, List.getElem?_cons_succ, Option.bind_some, Option.bind_none, Option.getD_some, Option.getD_none, V.keysIn, V.kill, V.has, decide_eq_true_eq, beq_iff_eq, bne_iff_ne, ne_eq, Bool.not_eq_true', Bool.and_true, Bool.and_self, Bool.true_and, if_true, if_false, reduceIte, Bool.false_eq_true, decide_true, decide_false, beq_self_eq_true, Bool.not_true, Bool.not_false, true_and, and_true, and_self, List.append_assoc, List.nil_append, List.cons_append, Int.toNat_natCast, ck, Int.cast_ofNat_Int, Int.reduceToNat, bne_self_eq_false, Bool.or_false, Bool.false_or, Bool.false_and, Bool.and_false, Bool.or_true, Bool.true_or]
    rfl
  · have e1 : drainF l n = l := by unfold drainF; rw [if_neg (by rw [h2]; decide)]
    have e2 : drainI l n = [] := by unfold drainI; rw [if_neg (by rw [h2]; decide)]
    rw [e1, e2]
    simp (decide := true) only [e, h2, Tryz.f21, rid, dp21_3, ↓sBp, sBq, List.all_cons, List.all_nil, List.map_cons, List.map_nil, D.shape, Sh.sub, Sh.size, List.getElem?_cons_zero, List.getElem?_cons_succ, Option.bind_some, Option.bind_none, Option.getD_some, Option.getD_none, V.keysIn, V.kill, V.has, decide_eq_true_eq, beq_iff_eq, bne_iff_ne, ne_eq, Bool.not_eq_true', Bool.and_true, Bool.and_self, Bool.true_and, if_true, if_false, reduceIte, Bool.false_eq_true, decide_true, decide_false, beq_self_eq_true, Bool.not_true, Bool.not_false, true_and, and_true, and_self, List.append_assoc, List.nil_append, List.cons_append, Int.toNat_natCast, ck, Int.cast_ofNat_Int, Int.reduceToNat, bne_self_eq_false, Bool.or_false, Bool.false_or, Bool.false_and, Bool.and_false, Bool.or_true, Bool.true_or]
end Go.Proofs.YtjceimcepogkaaaGreatDoor.Ev
/- lpa.Heard, as a body of its own, and lpa.New. -/
namespace Go.Proofs.YtjceimcepogkaaaGreatDoor.Ev
open Go
attribute [local congr] ob_congr sq_congr cd_congr ite_congr1 iter_congr it1_congr jumps_congr
set_option maxRecDepth 100000
set_option linter.unusedSimpArgs false
set_option linter.unusedVariables false
def hrW (s n : Int) (w : Nat → Int) (i : Nat) : Nat → Int := upto (fun q w => replyW ((listTo s 16).getD q 0) n w) w i
theorem hrW_succ (s n : Int) (w : Nat → Int) (i : Nat) {m : Int} (h : (listTo s 16)[i]? = some m) : hrW s n w (i + 1) = replyW m n (hrW s n w i) := by
  have e : (listTo s 16).getD i 0 = m := by simp [List.getD, h]
  subst e; rfl
def hrG (l : LP) (n : Int) (its : List Itm) : LP :=
  ⟨⟨l.k.self, l.k.up, l.k.c, setN l.k.tD n.toNat (appTo its ⟨l.k.tD n.toNat, l.k.tP n.toNat⟩ its.length).d, setN l.k.tP n.toNat (appTo its ⟨l.k.tD n.toNat, l.k.tP n.toNat⟩ its.length).p⟩, l.r, l.least, l.act,
    hrW (destTo its 2 its.length) n l.wait (listTo (destTo its 2 its.length) 16).length, l.tell, l.ask, setN l.reply n.toNat (bits .or .i64 (l.reply n.toNat) (destTo its 1 its.length))⟩
noncomputable def heardF (l : LP) (n : Int) (its : List Itm) : LP := if has (nb l.k.up) n = true then anewF (hrG l n its) else l
/-- The body of Heard, run. -/
noncomputable def heardX (ext : Nat → List V → Option V) (n : Nat) (vs : List V) : Option V :=
  ob Tryz.f22.body fun c => resX env Tryz.f22.results.toList (evC env (evF Tryz.prog env ext n) 22 loopFuel c (enter vs))
theorem dpH : env.dp 22 4 = [] := nr rfl
set_option maxHeartbeats 2000000 in
theorem heard_gen (K : Nat) (l : LP) (n : Int) (its : List Itm) (v : V) (hv : ∀ m, argV m v = some v) (q3 : ∀ d p : Nat → Int, evF Tryz.prog env xt (K+8) 73 [.d (treeD d p), v] = some (.d (treeD (appTo its ⟨d, p⟩ its.length).d (appTo its ⟨d, p⟩ its.length).p)))
    (q4 : evF Tryz.prog env xt (K+8) 74 [v] = some (.d (.s (.int .i64 (destTo its 1 its.length))))) (q5 : evF Tryz.prog env xt (K+8) 75 [v] = some (.d (.s (.int .i64 (destTo its 2 its.length))))) : heardX xt (K+8) [.d (lpD l), .d (.s (.int .i64 (n))), v] = some (.tcons (.d (lpD (heardF l n its))) (.tcons (.d (.s (.int .i64 (lnE l n)))) .tnil)) := by
  unfold heardX
  rw [show Tryz.f22.body = some _ from rfl, ob_some]
  rcases Bool.eq_false_or_eq_true (has (nb l.k.up) n) with h2 | h2
  · have e1 : heardF l n its = anewF (hrG l n its) := by unfold heardF; rw [if_pos h2]
    have e2 : lnE l n = 0 := by unfold lnE; rw [if_pos h2]
    rw [e1, e2]
    have hr := has_right h2
    have hr2 := right_nn hr
    obtain ⟨m, hm, rfl⟩ : ∃ m : Nat, m < 16 ∧ n = m := ⟨n.toNat, by omega, by omega⟩
    have e3 := q3 (l.k.tD m) (l.k.tP m)
    have e4 := q4
    have e5 := q5
    clear q3 q4 q5
    have hG : anewF (hrG l m its) = anewF ⟨⟨l.k.self, l.k.up, l.k.c, setN l.k.tD m (appTo its ⟨l.k.tD m, l.k.tP m⟩ its.length).d, setN l.k.tP m (appTo its ⟨l.k.tD m, l.k.tP m⟩ its.length).p⟩, l.r, l.least, l.act,
      hrW (destTo its 2 its.length) m l.wait (listTo (destTo its 2 its.length) 16).length, l.tell, l.ask, setN l.reply m (bits .or .i64 (l.reply m) (destTo its 1 its.length))⟩ := rfl
    rw [hG]
    generalize appTo its ⟨l.k.tD m, l.k.tP m⟩ its.length = T at e3 ⊢
    generalize destTo its 1 its.length = asq at e4 ⊢
    generalize destTo its 2 its.length = rs at e5 ⊢
    have hlen := listTo_len rs 16
    have hle := ints_length (listTo rs 16)
    simp (decide := true) only [hv, dpH, linked_ev, h2, hr2, e3, setN_tree, e4, setN_int, e5, list_ev, Tryz.f22, rid, kl22_6, ↓sBp, sBq, List.all_cons, List.all_nil, List.map_cons, List.map_nil, D.shape, Sh.sub, Sh.size, List.getElem?_cons_zero, List.getElem?_cons_succ, Option.bind_some, Option.bind_none, Option.getD_some, Option.getD_none, V.keysIn, V.kill, V.has, decide_eq_true_eq, beq_iff_eq, bne_iff_ne, ne_eq, Bool.not_eq_true', Bool.and_true, Bool.and_self, Bool.true_and, if_true, if_false, reduceIte, Bool.false_eq_true, decide_true, decide_false, beq_self_eq_true, Bool.not_true, Bool.not_false, true_and, and_true, and_self, List.append_assoc, List.nil_append, List.cons_append, Int.toNat_natCast, ck, Int.cast_ofNat_Int, Int.reduceToNat, bne_self_eq_false, Bool.or_false, Bool.false_or, Bool.false_and, Bool.and_false, Bool.or_true, Bool.true_or]
    rw [iter_run (S := fun i => ⟨tab .junk [(1, .d (.s (.int .i64 ((m : Nat))))), (3, .ptr 3 (shL) [] (shL)), (6, .ptr 6 (shL) [] (shL)), (37, .sl (.tg 37) cI (ints (listTo rs 16))), (38, .d (.s (.int .i64 ((listTo rs 16).length)))), (39, .d (.s (.int .i64 (i))))], tab none [(3, some (.box (lpX l.k.self l.k.up l.k.c (setN l.k.tD m T.d) (setN l.k.tP m T.p) l.r.d l.r.p l.r.n l.least l.act (hrW rs m l.wait i) l.tell l.ask (setN l.reply m (bits .or .i64 (l.reply m) asq))))), (6, some (.box (Z45))), (37, some .row)]⟩) (n := (listTo rs 16).length) (h0 := ?h0) (hn := ?hn) (step := ?step)]
    case h0 => rw [hle]; rfl
    case hn => exact lt_loopFuel (by omega)
    case step =>
      intro i hi
      have hi1 : (i : Int) < ((listTo rs 16).length : Int) := by omega
      have hi0 : (0 : Int) ≤ i := by omega
      have hiw := wrap_succ i (by omega)
      obtain ⟨n, hn, hh, he⟩ := listTo_get rs hi
      have hg := ints_get he
      have es := hrW_succ rs m l.wait i he
      generalize hrW rs m l.wait i = w at es
      simp (decide := true) only [hi1, hi0, hiw, hg, reply_ev, es, Tryz.f22, rid, kl22_6, ↓sBp, sBq, List.all_cons, List.all_nil, List.map_cons, List.map_nil, D.shape, Sh.sub, Sh.size, List.getElem?_cons_zero, List.getElem?_cons_succ, Option.bind_some, Option.bind_none, Option.getD_some, Option.getD_none, V.keysIn, V.kill, V.has, decide_eq_true_eq, beq_iff_eq, bne_iff_ne, ne_eq, Bool.not_eq_true', Bool.and_true, Bool.and_self, Bool.true_and, if_true, if_false, reduceIte, Bool.false_eq_true, decide_true, decide_false, beq_self_eq_true, Bool.not_true, Bool.not_false, true_and, and_true, and_self, List.append_assoc, List.nil_append, List.cons_append, Int.toNat_natCast, ck, Int.cast_ofNat_Int, Int.reduceToNat, bne_self_eq_false, Bool.or_false, Bool.false_or, Bool.false_and, Bool.and_false, Bool.or_true, Bool.true_or]
    have e6 : evF Tryz.prog env xt (K+8) 70 [.d (lpX l.k.self l.k.up l.k.c (setN l.k.tD m T.d) (setN l.k.tP m T.p) l.r.d l.r.p l.r.n l.least l.act (hrW rs m l.wait (listTo rs 16).length) l.tell l.ask (setN l.reply m (bits .or .i64 (l.reply m) asq)))] = some (.d (lpD (anewF ⟨⟨l.k.self, l.k.up, l.k.c, setN l.k.tD m T.d, setN l.k.tP m T.p⟩, l.r, l.least, l.act, hrW rs m l.wait (listTo rs 16).length, l.tell, l.ask, setN l.reply m (bits .or .i64 (l.reply m) asq)⟩))) := anew_ev K ⟨⟨l.k.self, l.k.up, l.k.c, setN l.k.tD m T.d, setN l.k.tP m T.p⟩, l.r, l.least, l.act, hrW rs m l.wait (listTo rs 16).length, l.tell, l.ask, setN l.reply m (bits .or .i64 (l.reply m) asq)⟩
    generalize anewF ⟨⟨l.k.self, l.k.up, l.k.c, setN l.k.tD m T.d, setN l.k.tP m T.p⟩, l.r, l.least, l.act, hrW rs m l.wait (listTo rs 16).length, l.tell, l.ask, setN l.reply m (bits .or .i64 (l.reply m) asq)⟩ = q at e6 ⊢
    simp (decide := true) only [Int.lt_irrefl, e6, Tryz.f22, rid, kl22_6, ↓sBp, sBq, List.all_cons, List.all_nil, List.map_cons, List.map_nil, D.shape, Sh.sub, Sh.size, List.getElem?_cons_zero, List.getElem?_cons_succ, Option.bind_some, Option.bind_none, Option.getD_some, Option.getD_none, V.keysIn, V.kill, V.has, decide_eq_true_eq, beq_iff_eq, bne_iff_ne, ne_eq, Bool.not_eq_true', Bool.and_true, Bool.and_self, Bool.true_and, if_true, if_false, reduceIte, Bool.false_eq_true, decide_true, decide_false, beq_self_eq_true, Bool.not_true, Bool.not_false, true_and, and_true, and_self, List.append_assoc, List.nil_append, List.cons_append, Int.toNat_natCast, ck, Int.cast_ofNat_Int, Int.reduceToNat, bne_self_eq_false, Bool.or_false, Bool.false_or, Bool.false_and, Bool.and_false, Bool.or_true, Bool.true_or]
  · have e1 : heardF l n its = l := by unfold heardF; rw [if_neg (by rw [h2]; decide)]
    have e2 : lnE l n = 9 := by unfold lnE; rw [if_neg (by rw [h2]; decide)]
    rw [e1, e2]
    simp (decide := true) only [linked_ev, h2, Tryz.f22, rid, kl22_6, ↓sBp, sBq, List.all_cons, List.all_nil, List.map_cons, List.map_nil, D.shape, Sh.sub, Sh.size, List.getElem?_cons_zero, List.getElem?_cons_succ, Option.bind_some, Option.bind_none, Option.getD_some, Option.getD_none, V.keysIn, V.kill, V.has, decide_eq_true_eq, beq_iff_eq, bne_iff_ne, ne_eq, Bool.not_eq_true', Bool.and_true, Bool.and_self, Bool.true_and, if_true, if_false, reduceIte, Bool.false_eq_true, decide_true, decide_false, beq_self_eq_true, Bool.not_true, Bool.not_false, true_and, and_true, and_self, List.append_assoc, List.nil_append, List.cons_append, Int.toNat_natCast, ck, Int.cast_ofNat_Int, Int.reduceToNat, bne_self_eq_false, Bool.or_false, Bool.false_or, Bool.false_and, Bool.and_false, Bool.or_true, Bool.true_or]
theorem heard_ev (K : Nat) (l : LP) (n : Int) (its : List Itm) (hl : its.length < 1000000) : heardX xt (K+8) [.d (lpD l), .d (.s (.int .i64 (n))), .sl .ro shI (itms its)] = some (.tcons (.d (lpD (heardF l n its))) (.tcons (.d (.s (.int .i64 (lnE l n)))) .tnil)) :=
  heard_gen K l n its _ (fun _ => rfl) (fun d p => mapply_ev (K+5) d p its hl) (asked_ev (K+4) its hl) (replied_ev (K+4) its hl)
theorem heard_raw (K : Nat) (l : LP) (n : Int) (a : Option Addr) (c : Nat) : heardX xt (K+8) [.d (lpD l), .d (.s (.int .i64 (n))), .d (.s (.slice a 0 c))] = some (.tcons (.d (lpD (heardF l n []))) (.tcons (.d (.s (.int .i64 (lnE l n)))) .tnil)) :=
  heard_gen K l n [] _ (fun _ => rfl) (fun d p => mapply_raw (K+5) d p a c) (asked_raw (K+4) a c) (replied_raw (K+4) a c)
def newTo (v : Nat → Int) (k : Nat) : Nat → Nat → Int := upto (fun i t => setN t i v) (fun _ _ => 0) k
theorem newTo_succ (v : Nat → Int) (k : Nat) : newTo v (k + 1) = setN (newTo v k) k v := rfl
def newF (self : Int) : LP := ⟨⟨self, 0, fun _ => 0, newTo (putN farD (-1) 0) 16, newTo farP 16⟩, ⟨putN farD self 0, farP, farP⟩, putN farD self 0, 0, fun _ => 0, fun _ => 0, fun _ => 0, fun _ => 0⟩
theorem z101 : Z45 = lpX 0 0 (fun _ => 0) (fun _ _ => 0) (fun _ _ => 0) (fun _ => 0) (fun _ => 0) (fun _ => 0) (fun _ => 0) 0 (fun _ => 0) (fun _ => 0) (fun _ => 0) (fun _ => 0) := nr rfl
theorem lpNew_ev (K : Nat) (self : Int) : evF Tryz.prog env xt (K+4) 6 [.d (.s (.int .i64 (self)))] = some (.d (lpD (newF self))) := by
  rw [evF_eq Tryz.func6 (show Tryz.f6.body = some _ from rfl) rfl rfl rfl (by show 1 ≤ 23; decide)]
  have e1 := empty_ev (K+1) self
  have e2 := fnew_ev (K+1) self
  simp (decide := true) only [e1, e2, z101, Tryz.f6, rid, kl6_4, ↓sBp, sBq, List.all_cons, List.all_nil, List.map_cons, List.map_nil, D.shape, Sh.sub, Sh.size, List.getElem?_cons_zero, List.getElem?_cons_succ, Option.bind_some, Option.bind_none, Option.getD_some, Option.getD_none, V.keysIn, V.kill, V.has, decide_eq_true_eq, beq_iff_eq, bne_iff_ne, ne_eq, Bool.not_eq_true', Bool.and_true, Bool.and_self, Bool.true_and, if_true, if_false, reduceIte, Bool.false_eq_true, decide_true, decide_false, beq_self_eq_true, Bool.not_true, Bool.not_false, true_and, and_true, and_self, List.append_assoc, List.nil_append, List.cons_append, Int.toNat_natCast, ck, Int.cast_ofNat_Int, Int.reduceToNat, bne_self_eq_false, Bool.or_false, Bool.false_or, Bool.false_and, Bool.and_false, Bool.or_true, Bool.true_or]
  rw [iter_run (S := fun k => ⟨tab .junk [(2, .ptr 2 (shL) [] (shL)), (3, .ptr 3 (shL) [] (shL)), (13, .d (.s (.int .i64 (k))))], tab none [(2, some (.box (lpX 0 0 (fun _ => 0) (fun _ _ => 0) (fun _ _ => 0) (fun _ => 0) (fun _ => 0) (fun _ => 0) (fun _ => 0) 0 (fun _ => 0) (fun _ => 0) (fun _ => 0) (fun _ => 0)))), (3, some (.box (lpX self 0 (fun _ => 0) (newTo (putN farD (-1) 0) k) (newTo farP k) (putN farD self 0) farP farP (putN farD self 0) 0 (fun _ => 0) (fun _ => 0) (fun _ => 0) (fun _ => 0))))]⟩) (n := 16) (h0 := ?h0) (hn := lt_loopFuel (by decide)) (step := ?step)]
  case h0 => rfl
  case step =>
    intro k hk
    have hk1 : (k : Int) < 16 := by omega
    have hk0 : (0 : Int) ≤ k := by omega
    have hkw := wrap_succ k (by omega)
    have e3 := newTo_succ (putN farD (-1) 0) k
    have e4 := newTo_succ farP k
    simp (decide := true) only [hk1, hk0, hkw, new_ev, setN_tree, e3, e4, Tryz.f6, rid, kl6_4, ↓sBp, sBq, List.all_cons, List.all_nil, List.map_cons, List.map_nil, D.shape, Sh.sub, Sh.size, List.getElem?_cons_zero, List.getElem?_cons_succ, Option.bind_some, Option.bind_none, Option.getD_some, Option.getD_none, V.keysIn, V.kill, V.has, decide_eq_true_eq, beq_iff_eq, bne_iff_ne, ne_eq, Bool.not_eq_true', Bool.and_true, Bool.and_self, Bool.true_and, if_true, if_false, reduceIte, Bool.false_eq_true, decide_true, decide_false, beq_self_eq_true, Bool.not_true, Bool.not_false, true_and, and_true, and_self, List.append_assoc, List.nil_append, List.cons_append, Int.toNat_natCast, ck, Int.cast_ofNat_Int, Int.reduceToNat, bne_self_eq_false, Bool.or_false, Bool.false_or, Bool.false_and, Bool.and_false, Bool.or_true, Bool.true_or]
  simp (decide := true) only [Tryz.f6, rid, kl6_4, ↓sBp, sBq, List.all_cons, List.all_nil, List.map_cons, List.map_nil, D.shape, Sh.sub, Sh.size, List.getElem?_cons_zero, List.getElem?_cons_succ, Option.bind_some, Option.bind_none, Option.getD_some, Option.getD_none, V.keysIn, V.kill, V.has, decide_eq_true_eq, beq_iff_eq, bne_iff_ne, ne_eq, Bool.not_eq_true', Bool.and_true, Bool.and_self, Bool.true_and, if_true, if_false, reduceIte, Bool.false_eq_true, decide_true, decide_false, beq_self_eq_true, Bool.not_true, Bool.not_false, true_and, and_true, and_self, List.append_assoc, List.nil_append, List.cons_append, Int.toNat_natCast, ck, Int.cast_ofNat_Int, Int.reduceToNat, bne_self_eq_false, Bool.or_false, Bool.false_or, Bool.false_and, Bool.and_false, Bool.or_true, Bool.true_or]
  rfl
end Go.Proofs.YtjceimcepogkaaaGreatDoor.Ev
