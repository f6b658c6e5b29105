/- The document's node (ref31): the same as the program's. -/
import Derived.Test.YtjceimcepogkaaaGreatDoorKb
import Derived.Test.YtjceimcepogkaaaGreatDoorLu
import Derived.Test.YtjceimcepogkaaaGreatDoorKi
namespace Go.Proofs.YtjceimcepogkaaaGreatDoor.Ev
open Go
attribute [local congr] ob_congr sq_congr cd_congr ite_congr1 iter_congr it1_congr jumps_congr
set_option maxRecDepth 100000
set_option linter.unusedSimpArgs false
set_option linter.unusedVariables false
structure AllI (l : LP) : Prop where
  tell : ∀ i, inI (l.tell i)
  ask : ∀ i, inI (l.ask i)
  reply : ∀ i, inI (l.reply i)
  wait : ∀ i, inI (l.wait i)
theorem inI_setN' {d : Nat → Int} (h : ∀ i, inI (d i)) {k : Nat} {v : Int} (hv : inI v) : ∀ i, inI (setN d k v i) := fun i => by
  unfold setN; split
  · exact hv
  · exact h i
theorem inI_spread {up set : Int} {q : Nat → Int} (hq : ∀ i, inI (q i)) : ∀ n i, inI (upto (spread1 up set) q n i)
  | 0 => hq
  | n + 1 => by
    show ∀ i, inI (spread1 up set n (upto (spread1 up set) q n) i)
    unfold spread1
    split
    · exact inI_setN' (inI_spread hq n) (inI_bits _ _ _)
    · exact inI_spread hq n
theorem inI_clear {q : Nat → Int} (hq : ∀ i, inI (q i)) (n : Int) : ∀ i, inI (clear q n i) := by
  unfold clear
  split
  · exact inI_setN' hq inI_zero
  · exact hq
theorem inI_replyW (j n : Int) {w : Nat → Int} (hw : ∀ i, inI (w i)) : ∀ i, inI (replyW j n w i) := by
  unfold replyW
  split
  · exact inI_setN' hw (inI_withoutN (hw _) _)
  · exact hw
theorem inI_endW (s : Int) {w : Nat → Int} (hw : ∀ i, inI (w i)) : ∀ i, ∀ q, inI (endW s w i q)
  | 0 => hw
  | i + 1 => by
    show ∀ q, inI (setN (endW s w i) ((listTo s 16).getD i 0).toNat 0 q)
    exact inI_setN' (inI_endW s hw i) inI_zero
theorem inI_stT (up bl : Int) {s : PhS} (hw : ∀ i, inI (s.w i)) : ∀ i, ∀ q, inI ((stT up bl s i).w q)
  | 0 => hw
  | i + 1 => by
    show ∀ q, inI ((st1 up ((listTo bl 16).getD i 0) (stT up bl s i)).w q)
    unfold st1
    split
    · exact inI_setN' (inI_stT up bl hw i) (inI_bits _ _ _)
    · exact inI_stT up bl hw i
theorem allI_round {l : LP} (h : AllI l) (up : Int) : AllI (roundF l up) :=
  ⟨h.tell, inI_spread h.ask 16, h.reply, inI_stT up _ (inI_endW _ h.wait _) _⟩
theorem allI_rd {l : LP} (h : AllI l) (up : Int) : ∀ n, AllI (rdTo l up n)
  | 0 => h
  | n + 1 => allI_round (allI_rd h up n) up
theorem allI_anew {l : LP} (h : AllI l) : AllI (anewF l) := by
  obtain ⟨h1, h2, h3, h4⟩ := allI_rd h (nb l.k.up) (anN l (nb l.k.up) + 1)
  exact ⟨inI_spread h1 16, h2, h3, h4⟩
theorem allI_gone (n : Int) {w : Nat → Int} (hw : ∀ i, inI (w i)) : ∀ k i, inI (upto (fun (k : Nat) w => replyW k n w) w k i)
  | 0 => hw
  | k + 1 => by
    show ∀ i, inI (replyW k n (upto (fun (k : Nat) w => replyW k n w) w k) i)
    exact inI_replyW _ _ (allI_gone n hw k)
theorem allI_hr (s n : Int) {w : Nat → Int} (hw : ∀ i, inI (w i)) : ∀ k i, inI (hrW s n w k i)
  | 0 => hw
  | k + 1 => by
    show ∀ i, inI (replyW ((listTo s 16).getD k 0) n (hrW s n w k) i)
    exact inI_replyW _ _ (allI_hr s n hw k)
theorem allI_upG {l : LP} (h : AllI l) (n cost : Int) : AllI (upG l n cost) :=
  ⟨inI_setN' (inI_clear h.tell n) (inI_setOf _ _), inI_clear h.ask n, inI_clear h.reply n, h.wait⟩
theorem allI_dnG {l : LP} (h : AllI l) (n : Int) : AllI (dnG l n) := ⟨inI_clear h.tell n, inI_clear h.ask n, inI_clear h.reply n, allI_gone n h.wait 16⟩
theorem allI_coG {l : LP} (h : AllI l) (n cost : Int) : AllI (coG l n cost) := ⟨h.tell, h.ask, h.reply, h.wait⟩
theorem allI_hrG {l : LP} (h : AllI l) (n : Int) (its : List Itm) : AllI (hrG l n its) := ⟨h.tell, h.ask, inI_setN' h.reply (inI_bits _ _ _), allI_hr _ n h.wait _⟩
theorem allI_up {l : LP} (h : AllI l) (n cost : Int) : AllI (upF l n cost) := by
  unfold upF; split
  · exact allI_anew (allI_upG h n cost)
  · exact h
theorem allI_down {l : LP} (h : AllI l) (n : Int) : AllI (downF l n) := by
  unfold downF; split
  · exact allI_anew (allI_dnG h n)
  · exact h
theorem allI_cost {l : LP} (h : AllI l) (n cost : Int) : AllI (costF l n cost) := by
  unfold costF; split
  · exact allI_anew (allI_coG h n cost)
  · exact h
theorem allI_heard {l : LP} (h : AllI l) (n : Int) (its : List Itm) : AllI (heardF l n its) := by
  unfold heardF; split
  · exact allI_anew (allI_hrG h n its)
  · exact h
theorem allI_drain {l : LP} (h : AllI l) (n : Int) : AllI (drainF l n) := by
  unfold drainF; split
  · exact ⟨inI_clear h.tell n, inI_clear h.ask n, inI_clear h.reply n, h.wait⟩
  · exact h
theorem allI_new (m : Int) : AllI (newF m) := ⟨fun _ => inI_zero, fun _ => inI_zero, fun _ => inI_zero, fun _ => inI_zero⟩
section
variable (self up : Int) (c : Nat → Int) (tD tP : Nat → Nat → Int) (rD rP rN le : Nat → Int) (a : Int) (w t q p : Nat → Int)
theorem rneigh_ev (K : Nat) : evF Tryz.prog env xt (K+1) 37 [.d (lpX self up c tD tP rD rP rN le a w t q p)] = some (.d (.s (.int .i64 (nb up)))) := by
  rw [evF_eq Tryz.func37 (show Tryz.f37.body = some _ from rfl) rfl rfl rfl (by show 1 ≤ 8; decide)]
  simp (decide := true) only [nb, Tryz.f37, rid, ↓sBp, sBq, List.all_cons, List.all_nil, List.map_cons, List.map_nil, D.shape, Sh.sub, Sh.size, List.getElem?_cons_zero, List.getElem?_cons_succ, Option.bind_some, Option.bind_none, Option.getD_some, Option.getD_none, V.keysIn, V.kill, V.has, decide_eq_true_eq, beq_iff_eq, bne_iff_ne, ne_eq, Bool.not_eq_true', Bool.and_true, Bool.and_self, Bool.true_and, if_true, if_false, reduceIte, Bool.false_eq_true, decide_true, decide_false, beq_self_eq_true, Bool.not_true, Bool.not_false, true_and, and_true, and_self, List.append_assoc, List.nil_append, List.cons_append, Int.toNat_natCast, ck, Int.cast_ofNat_Int, Int.reduceToNat, bne_self_eq_false, Bool.or_false, Bool.false_or, Bool.false_and, Bool.and_false, Bool.or_true, Bool.true_or]
set_option maxHeartbeats 4000000 in
theorem rask_ev (K : Nat) (nbr bl : Int) (s2 : PhS) (q2 : Nat → Int) (hnb : nb up = nbr) (hs2 : stT nbr bl ⟨a, w⟩ (listTo bl 16).length = s2) (hq2 : upto (spread1 nbr bl) q 16 = q2) :
    evF Tryz.prog env xt (K+6) 91 [.d (lpX self up c tD tP rD rP rN le a w t q p), .d (.s (.int .i64 (bl)))] = some (.d (lpX self up c tD tP rD rP rN le s2.a s2.w t q2 p)) := by
  rw [evF_eq Tryz.func91 (show Tryz.f91.body = some _ from rfl) rfl rfl rfl (by show 2 ≤ 31; decide)]
  have e0 := rneigh_ev self up c tD tP rD rP rN le a w t q p (K+4)
  rw [hnb] at e0
  have e6 := rspread_ev (K+1) q nbr bl
  rw [hq2] at e6
  have hlen := listTo_len bl 16
  have hle := ints_length (listTo bl 16)
  simp (decide := true) only [e0, rlist_ev, Tryz.f91, rid, kl91_3, ↓sBp, sBq, List.all_cons, List.all_nil, List.map_cons, List.map_nil, D.shape, Sh.sub, Sh.size, List.getElem?_cons_zero, List.getElem?_cons_succ, Option.bind_some, Option.bind_none, Option.getD_some, Option.getD_none, V.keysIn, V.kill, V.has, decide_eq_true_eq, beq_iff_eq, bne_iff_ne, ne_eq, Bool.not_eq_true', Bool.and_true, Bool.and_self, Bool.true_and, if_true, if_false, reduceIte, Bool.false_eq_true, decide_true, decide_false, beq_self_eq_true, Bool.not_true, Bool.not_false, true_and, and_true, and_self, List.append_assoc, List.nil_append, List.cons_append, Int.toNat_natCast, ck, Int.cast_ofNat_Int, Int.reduceToNat, bne_self_eq_false, Bool.or_false, Bool.false_or, Bool.false_and, Bool.and_false, Bool.or_true, Bool.true_or]
  rw [iter_run (S := fun i => ⟨tab .junk [(1, .d (.s (.int .i64 (bl)))), (2, .ptr 2 (shL) [] (shL)), (4, .ptr 4 (shL) [] (shL)), (5, .d (.s (.int .i64 (nbr)))), (11, .sl (.tg 11) cI (ints (listTo bl 16))), (12, .d (.s (.int .i64 ((listTo bl 16).length)))), (13, .d (.s (.int .i64 (i))))], tab none [(2, some (.box (lpX self up c tD tP rD rP rN le (stT nbr bl ⟨a, w⟩ i).a (stT nbr bl ⟨a, w⟩ i).w t q p))), (4, some (.box (Z45))), (9, none), (11, some .row)]⟩) (n := (listTo bl 16).length) (h0 := ?h0) (hn := ?hn) (step := ?step)]
  case h0 => rw [hle]; rfl
  case hn => exact lt_loopFuel (by omega)
  case step =>
    intro i hi
    have hi1 : (i : Int) < ((listTo bl 16).length : Int) := by omega
    have hi0 : (0 : Int) ≤ i := by omega
    have hiw := wrap_succ i (by omega)
    obtain ⟨n, hn, hh, he⟩ := listTo_get bl hi
    have hg := ints_get he
    have hr : right (n : Int) = true := right_of hn
    have es := stT_succ nbr bl ⟨a, w⟩ i he
    generalize stT nbr bl ⟨a, w⟩ i = s at es
    have e7 := rstart_ev (K+2) s.a s.w n nbr
    rcases Bool.eq_false_or_eq_true (has s.a n) with h1 | h1
    · have e8 : st1 nbr n s = s := by unfold st1; rw [if_neg (by rw [h1]; decide)]
      rw [e8] at es
      rw [if_neg (by rw [h1]; simp)] at e7
      simp (decide := true) only [hi1, hi0, hiw, hg, e7, es, Tryz.f91, rid, kl91_3, ↓sBp, sBq, List.all_cons, List.all_nil, List.map_cons, List.map_nil, D.shape, Sh.sub, Sh.size, List.getElem?_cons_zero, List.getElem?_cons_succ, Option.bind_some, Option.bind_none, Option.getD_some, Option.getD_none, V.keysIn, V.kill, V.has, decide_eq_true_eq, beq_iff_eq, bne_iff_ne, ne_eq, Bool.not_eq_true', Bool.and_true, Bool.and_self, Bool.true_and, if_true, if_false, reduceIte, Bool.false_eq_true, decide_true, decide_false, beq_self_eq_true, Bool.not_true, Bool.not_false, true_and, and_true, and_self, List.append_assoc, List.nil_append, List.cons_append, Int.toNat_natCast, ck, Int.cast_ofNat_Int, Int.reduceToNat, bne_self_eq_false, Bool.or_false, Bool.false_or, Bool.false_and, Bool.and_false, Bool.or_true, Bool.true_or]
    · have e8 : st1 nbr n s = ⟨withN s.a n, setN s.w (n : Int).toNat (bits .and .i64 nbr 65535)⟩ := by unfold st1; rw [if_pos h1]; rfl
      rw [e8] at es
      rw [if_pos ⟨hr, h1⟩] at e7
      simp (decide := true) only [hi1, hi0, hiw, hg, e7, es, Tryz.f91, rid, kl91_3, ↓sBp, sBq, List.all_cons, List.all_nil, List.map_cons, List.map_nil, D.shape, Sh.sub, Sh.size, List.getElem?_cons_zero, List.getElem?_cons_succ, Option.bind_some, Option.bind_none, Option.getD_some, Option.getD_none, V.keysIn, V.kill, V.has, decide_eq_true_eq, beq_iff_eq, bne_iff_ne, ne_eq, Bool.not_eq_true', Bool.and_true, Bool.and_self, Bool.true_and, if_true, if_false, reduceIte, Bool.false_eq_true, decide_true, decide_false, beq_self_eq_true, Bool.not_true, Bool.not_false, true_and, and_true, and_self, List.append_assoc, List.nil_append, List.cons_append, Int.toNat_natCast, ck, Int.cast_ofNat_Int, Int.reduceToNat, bne_self_eq_false, Bool.or_false, Bool.false_or, Bool.false_and, Bool.and_false, Bool.or_true, Bool.true_or]
  rw [hs2]
  simp (decide := true) only [Int.lt_irrefl, e6, Tryz.f91, rid, kl91_3, ↓sBp, sBq, List.all_cons, List.all_nil, List.map_cons, List.map_nil, D.shape, Sh.sub, Sh.size, List.getElem?_cons_zero, List.getElem?_cons_succ, Option.bind_some, Option.bind_none, Option.getD_some, Option.getD_none, V.keysIn, V.kill, V.has, decide_eq_true_eq, beq_iff_eq, bne_iff_ne, ne_eq, Bool.not_eq_true', Bool.and_true, Bool.and_self, Bool.true_and, if_true, if_false, reduceIte, Bool.false_eq_true, decide_true, decide_false, beq_self_eq_true, Bool.not_true, Bool.not_false, true_and, and_true, and_self, List.append_assoc, List.nil_append, List.cons_append, Int.toNat_natCast, ck, Int.cast_ofNat_Int, Int.reduceToNat, bne_self_eq_false, Bool.or_false, Bool.false_or, Bool.false_and, Bool.and_false, Bool.or_true, Bool.true_or]
end
theorem stF_zero {l : LP} (h : blF l = 0) (up : Int) : stF l up = ⟨aF l, wF l⟩ := by
  unfold stF
  rw [h]
  have : listTo 0 16 = [] := by
    refine List.eq_nil_of_length_eq_zero (Classical.byContradiction fun hn => ?_)
    obtain ⟨m, _, h, _⟩ := listTo_get 0 (show 0 < (listTo 0 16).length by omega)
    rw [has_zero] at h; cases h
  rw [this]; rfl
theorem spread_no {up : Int} {q : Nat → Int} (hq : ∀ i, inI (q i)) : ∀ n, upto (spread1 up 0) q n = q
  | 0 => rfl
  | n + 1 => by
    show spread1 up 0 n (upto (spread1 up 0) q n) = q
    rw [spread_no hq n]
    unfold spread1
    have e : bits .and .i64 0 65535 = 0 := rfl
    rw [e, or_zero (hq n), setN_self]
    split <;> rfl
theorem round_zero {l : LP} (h : blF l = 0) (ha : ∀ i, inI (l.ask i)) (up : Int) : roundF l up = ⟨l.k, rF l, leF l, aF l, wF l, l.tell, l.ask, l.reply⟩ := by
  unfold roundF
  rw [stF_zero h, h, spread_no ha]
set_option maxHeartbeats 8000000 in
theorem rrefresh_ev (K : Nat) (l : LP) (hA : AllI l) : evF Tryz.prog env xt (K+8) 41 [.d (lpD l)] = some (.d (lpD (anewF l))) := by
  rw [evF_eq Tryz.func41 (show Tryz.f41.body = some _ from rfl) rfl rfl rfl (by show 1 ≤ 60; decide)]
  obtain ⟨hN, hend, hfirst⟩ := anN_ok l (nb l.k.up)
  have hl : lastF l = rdTo l (nb l.k.up) (anN l (nb l.k.up) + 1) := rfl
  generalize anN l (nb l.k.up) = N at hN hend hfirst hl
  generalize hup : nb l.k.up = u at hend hfirst hl
  have d1 : ∀ m : LP, evF Tryz.prog env xt (K+7) 86 [.d (phD m.act m.wait)] = some (.d (.s (.int .i64 (dnF m)))) := fun m => rdone_ev (K+3) m.act m.wait
  have d2 : ∀ m : LP, evF Tryz.prog env xt (K+7) 87 [.d (phD m.act m.wait), .d (.s (.int .i64 (dnF m)))] = some (.d (phD (aF m) (wF m))) := fun m => rend_ev (K+3) m.act m.wait (dnF m)
  have d3 : ∀ m : LP, evF Tryz.prog env xt (K+7) 88 [.d (arrU m.least), .d (.s (.int .i64 (dnF m)))] = some (.d (arrU (leF m))) := fun m => rreset_ev (K+3) m.least (dnF m)
  have d4 : ∀ m : LP, evF Tryz.prog env xt (K+7) 89 [.d (knD m.k.self m.k.up m.k.c m.k.tD m.k.tP), .d (.s (.int .i64 (aF m)))] = some (.d (rowsD (rF m).d (rF m).p (rF m).n)) := fun m => rsettle_ev (K+1) m.k.self m.k.up m.k.c m.k.tD m.k.tP (aF m)
  have d5 : ∀ m : LP, evF Tryz.prog env xt (K+7) 90 [.d (knD m.k.self m.k.up m.k.c m.k.tD m.k.tP), .d (rowsD (rF m).d (rF m).p (rF m).n), .d (arrU (leF m))] = some (.d (.s (.int .i64 (blF m)))) := fun m => rblocked_ev (K+3) m.k.self m.k.up m.k.c m.k.tD m.k.tP (rF m).d (rF m).p (rF m).n (leF m)
  have d6 : ∀ m : LP, nb m.k.up = u → evF Tryz.prog env xt (K+7) 91 [.d (lpX m.k.self m.k.up m.k.c m.k.tD m.k.tP (rF m).d (rF m).p (rF m).n (leF m) (aF m) (wF m) m.tell m.ask m.reply), .d (.s (.int .i64 (blF m)))] = some (.d (lpD (roundF m u))) := fun m hm => by
    have := rask_ev m.k.self m.k.up m.k.c m.k.tD m.k.tP (rF m).d (rF m).p (rF m).n (leF m) (aF m) (wF m) m.tell m.ask m.reply (K+1) u (blF m) _ _ hm rfl rfl
    exact this
  have kk : ∀ n, nb (rdTo l u n).k.up = u := fun n => by rw [(rdTo_k l u n).1]; exact hup
  have fin : ∀ m : LP, nb m.k.up = u → evF Tryz.prog env xt (K+7) 92 [.d (arrU m.least), .d (rowsD m.r.d m.r.p m.r.n)] = some (.d (arrU (finF l m).least)) ∧ evF Tryz.prog env xt (K+7) 94 [.d (rowsD l.r.d l.r.p l.r.n), .d (rowsD m.r.d m.r.p m.r.n)] = some (.d (.s (.int .i64 (chgF l.r.d l.r.p m.r.d m.r.p)))) ∧
      evF Tryz.prog env xt (K+7) 93 [.d (arr16 m.tell), .d (.s (.int .i64 (u))), .d (.s (.int .i64 (chgF l.r.d l.r.p m.r.d m.r.p)))] = some (.d (arr16 (finF l m).tell)) ∧ evF Tryz.prog env xt (K+7) 37 [.d (lpX m.k.self m.k.up m.k.c m.k.tD m.k.tP m.r.d m.r.p m.r.n (finF l m).least m.act m.wait m.tell m.ask m.reply)] = some (.d (.s (.int .i64 (u)))) := fun m hm =>
    ⟨rlower_ev (K+5) m.least m.r.d m.r.p m.r.n, rchanged_ev (K+4) _ _ _ _ _ _, by subst hup; exact rspread_ev (K+3) m.tell _ _, by
      have := rneigh_ev m.k.self m.k.up m.k.c m.k.tD m.k.tP m.r.d m.r.p m.r.n (finF l m).least m.act m.wait m.tell m.ask m.reply (K+6)
      rw [hm] at this
      exact this⟩
  simp (decide := true) only [Tryz.f41, rid, kl41_3, dp41_13, ↓sBp, sBq, List.all_cons, List.all_nil, List.map_cons, List.map_nil, D.shape, Sh.sub, Sh.size, List.getElem?_cons_zero, List.getElem?_cons_succ, Option.bind_some, Option.bind_none, Option.getD_some, Option.getD_none, V.keysIn, V.kill, V.has, decide_eq_true_eq, beq_iff_eq, bne_iff_ne, ne_eq, Bool.not_eq_true', Bool.and_true, Bool.and_self, Bool.true_and, if_true, if_false, reduceIte, Bool.false_eq_true, decide_true, decide_false, beq_self_eq_true, Bool.not_true, Bool.not_false, true_and, and_true, and_self, List.append_assoc, List.nil_append, List.cons_append, Int.toNat_natCast, ck, Int.cast_ofNat_Int, Int.reduceToNat, bne_self_eq_false, Bool.or_false, Bool.false_or, Bool.false_and, Bool.and_false, Bool.or_true, Bool.true_or]
  have stp : ∀ t, t < N → (blF (rdTo l u t) == 0) = false := fun t ht => by
    have := hfirst t ht
    have h : ¬ blF (rdTo l u t) = 0 := fun e => this (Or.inl e)
    simpa using h
  by_cases hz : blF (rdTo l u N) = 0
  · rw [iter_run (S := fun t => ⟨tab .junk [(1, .ptr 1 (shL) [] (shL)), (2, .ptr 2 (shL) [] (shL)), (3, .ptr 3 (shRs) [] (shRs)), (8, .d (.s (.int .i64 (t))))], tab none [(1, some (.box (lpD (rdTo l u t)))), (2, some (.box (Z45))), (3, some (.box (rowsD l.r.d l.r.p l.r.n)))]⟩) (n := N) (h0 := ?h0) (hn := ?hn) (step := ?step)]
    case h0 => rfl
    case hn => exact lt_loopFuel (by omega)
    case step =>
      intro t ht
      have hk1 : (t : Int) < 48 := by omega
      have hkw := wrap_succ t (by omega)
      have hb := stp t ht
      have hk := kk t
      have es : rdTo l u (t + 1) = roundF (rdTo l u t) u := rfl
      rw [es]
      generalize rdTo l u t = m at hb hk
      have q1 := d1 m
      have q2 := d2 m
      have q3 := d3 m
      have q4 := d4 m
      have q5 := d5 m
      have q6 := d6 m hk
      generalize roundF m u = m' at q6
      generalize rF m = r1 at q4 q5 q6
      generalize leF m = le1 at q3 q5 q6
      generalize aF m = a1 at q2 q4 q6
      generalize wF m = w1 at q2 q6
      generalize dnF m = dn at q1 q2 q3
      generalize blF m = b1 at hb q5 q6
      simp (decide := true) only [hk1, hkw, q1, q2, q3, q4, q5, hb, q6, Tryz.f41, rid, kl41_3, dp41_13, ↓sBp, sBq, List.all_cons, List.all_nil, List.map_cons, List.map_nil, D.shape, Sh.sub, Sh.size, List.getElem?_cons_zero, List.getElem?_cons_succ, Option.bind_some, Option.bind_none, Option.getD_some, Option.getD_none, V.keysIn, V.kill, V.has, decide_eq_true_eq, beq_iff_eq, bne_iff_ne, ne_eq, Bool.not_eq_true', Bool.and_true, Bool.and_self, Bool.true_and, if_true, if_false, reduceIte, Bool.false_eq_true, decide_true, decide_false, beq_self_eq_true, Bool.not_true, Bool.not_false, true_and, and_true, and_self, List.append_assoc, List.nil_append, List.cons_append, Int.toNat_natCast, ck, Int.cast_ofNat_Int, Int.reduceToNat, bne_self_eq_false, Bool.or_false, Bool.false_or, Bool.false_and, Bool.and_false, Bool.or_true, Bool.true_or]
    have hk1 : (N : Int) < 48 := by omega
    have hk := kk N
    have hb : (blF (rdTo l u N) == 0) = true := by rw [hz]; rfl
    have er : roundF (rdTo l u N) u = _ := round_zero hz (allI_rd hA u N).ask u
    have es : rdTo l u (N + 1) = roundF (rdTo l u N) u := rfl
    have ha : anewF l = finF l (rdTo l u (N + 1)) := by unfold anewF; rw [hl]
    rw [es, er] at ha
    rw [ha]
    generalize rdTo l u N = m at hb hk
    have q1 := d1 m
    have q2 := d2 m
    have q3 := d3 m
    have q4 := d4 m
    have q5 := d5 m
    obtain ⟨f1, f2, f3, f4⟩ := fin ⟨m.k, rF m, leF m, aF m, wF m, m.tell, m.ask, m.reply⟩ hk
    generalize rF m = r1 at q4 q5 f1 f2 f3 f4
    generalize leF m = le1 at q3 q5 f1 f2 f3 f4
    generalize aF m = a1 at q2 q4 f1 f2 f3 f4
    generalize wF m = w1 at q2 f1 f2 f3 f4
    generalize dnF m = dn at q1 q2 q3
    generalize blF m = b1 at hb q5
    simp (decide := true) only [hk1, q1, q2, q3, q4, q5, hb, f1, f2, f3, f4, Tryz.f41, rid, kl41_3, dp41_13, ↓sBp, sBq, List.all_cons, List.all_nil, List.map_cons, List.map_nil, D.shape, Sh.sub, Sh.size, List.getElem?_cons_zero, List.getElem?_cons_succ, Option.bind_some, Option.bind_none, Option.getD_some, Option.getD_none, V.keysIn, V.kill, V.has, decide_eq_true_eq, beq_iff_eq, bne_iff_ne, ne_eq, Bool.not_eq_true', Bool.and_true, Bool.and_self, Bool.true_and, if_true, if_false, reduceIte, Bool.false_eq_true, decide_true, decide_false, beq_self_eq_true, Bool.not_true, Bool.not_false, true_and, and_true, and_self, List.append_assoc, List.nil_append, List.cons_append, Int.toNat_natCast, ck, Int.cast_ofNat_Int, Int.reduceToNat, bne_self_eq_false, Bool.or_false, Bool.false_or, Bool.false_and, Bool.and_false, Bool.or_true, Bool.true_or]
    rfl
  · have h47 : N = 47 := by
      rcases hend with h | h
      · exact absurd h hz
      · exact h
    have stp2 : ∀ t, t < N + 1 → (blF (rdTo l u t) == 0) = false := fun t ht => by
      by_cases e : t < N
      · exact stp t e
      · have : t = N := by omega
        subst this
        simpa using hz
    rw [iter_run (S := fun t => ⟨tab .junk [(1, .ptr 1 (shL) [] (shL)), (2, .ptr 2 (shL) [] (shL)), (3, .ptr 3 (shRs) [] (shRs)), (8, .d (.s (.int .i64 (t))))], tab none [(1, some (.box (lpD (rdTo l u t)))), (2, some (.box (Z45))), (3, some (.box (rowsD l.r.d l.r.p l.r.n)))]⟩) (n := N + 1) (h0 := ?h0) (hn := ?hn) (step := ?step)]
    case h0 => rfl
    case hn => exact lt_loopFuel (by omega)
    case step =>
      intro t ht
      have hk1 : (t : Int) < 48 := by omega
      have hkw := wrap_succ t (by omega)
      have hb := stp2 t ht
      have hk := kk t
      have es : rdTo l u (t + 1) = roundF (rdTo l u t) u := rfl
      rw [es]
      generalize rdTo l u t = m at hb hk
      have q1 := d1 m
      have q2 := d2 m
      have q3 := d3 m
      have q4 := d4 m
      have q5 := d5 m
      have q6 := d6 m hk
      generalize roundF m u = m' at q6
      generalize rF m = r1 at q4 q5 q6
      generalize leF m = le1 at q3 q5 q6
      generalize aF m = a1 at q2 q4 q6
      generalize wF m = w1 at q2 q6
      generalize dnF m = dn at q1 q2 q3
      generalize blF m = b1 at hb q5 q6
      simp (decide := true) only [hk1, hkw, q1, q2, q3, q4, q5, hb, q6, Tryz.f41, rid, kl41_3, dp41_13, ↓sBp, sBq, List.all_cons, List.all_nil, List.map_cons, List.map_nil, D.shape, Sh.sub, Sh.size, List.getElem?_cons_zero, List.getElem?_cons_succ, Option.bind_some, Option.bind_none, Option.getD_some, Option.getD_none, V.keysIn, V.kill, V.has, decide_eq_true_eq, beq_iff_eq, bne_iff_ne, ne_eq, Bool.not_eq_true', Bool.and_true, Bool.and_self, Bool.true_and, if_true, if_false, reduceIte, Bool.false_eq_true, decide_true, decide_false, beq_self_eq_true, Bool.not_true, Bool.not_false, true_and, and_true, and_self, List.append_assoc, List.nil_append, List.cons_append, Int.toNat_natCast, ck, Int.cast_ofNat_Int, Int.reduceToNat, bne_self_eq_false, Bool.or_false, Bool.false_or, Bool.false_and, Bool.and_false, Bool.or_true, Bool.true_or]
    have hk := kk (N + 1)
    have hlt : ¬ ((N + 1 : Nat) : Int) < 48 := by omega
    have ha : anewF l = finF l (rdTo l u (N + 1)) := by unfold anewF; rw [hl]
    rw [ha]
    generalize rdTo l u (N + 1) = m at hk
    obtain ⟨f1, f2, f3, f4⟩ := fin m hk
    simp (decide := true) only [hlt, f1, f2, f3, f4, Tryz.f41, rid, kl41_3, dp41_13, ↓sBp, sBq, List.all_cons, List.all_nil, List.map_cons, List.map_nil, D.shape, Sh.sub, Sh.size, List.getElem?_cons_zero, List.getElem?_cons_succ, Option.bind_some, Option.bind_none, Option.getD_some, Option.getD_none, V.keysIn, V.kill, V.has, decide_eq_true_eq, beq_iff_eq, bne_iff_ne, ne_eq, Bool.not_eq_true', Bool.and_true, Bool.and_self, Bool.true_and, if_true, if_false, reduceIte, Bool.false_eq_true, decide_true, decide_false, beq_self_eq_true, Bool.not_true, Bool.not_false, true_and, and_true, and_self, List.append_assoc, List.nil_append, List.cons_append, Int.toNat_natCast, ck, Int.cast_ofNat_Int, Int.reduceToNat, bne_self_eq_false, Bool.or_false, Bool.false_or, Bool.false_and, Bool.and_false, Bool.or_true, Bool.true_or]
    rfl
theorem clear_set (f : Nat → Int) {n : Int} (h : right n = true) : clear f n = setN f n.toNat 0 := by unfold clear; rw [if_pos h]
theorem setN_setN {α : Type} (f : Nat → α) (i : Nat) (a b : α) : setN (setN f i a) i b = setN f i b := funext fun j => by unfold setN; split <;> rfl
theorem rlpUp_ev (K : Nat) (l : LP) (n cost : Int) (hA : AllI l) : evF Tryz.prog env xt (K+9) 9 [.d (lpD l), .d (.s (.int .i64 (n))), .d (.s (.int .u32 (cost)))] = some (.tcons (.d (lpD (upF l n cost))) (.tcons (.d (.s (.int .i64 (upE l n cost)))) .tnil)) := by
  rw [evF_eq Tryz.func9 (show Tryz.f9.body = some _ from rfl) rfl rfl rfl (by show 3 ≤ 57; decide)]
  rcases Bool.eq_false_or_eq_true (n == l.k.self) with h1 | h1
  · have e1 : upF l n cost = l := by unfold upF upO; rw [h1]; rfl
    have e2 : upE l n cost = 1 := by unfold upE; rw [if_pos h1]
    rw [e1, e2]
    simp (decide := true) only [h1, Tryz.f9, rid, ↓sBp, sBq, List.all_cons, List.all_nil, List.map_cons, List.map_nil, D.shape, Sh.sub, Sh.size, List.getElem?_cons_zero, List.getElem?_cons_succ, Option.bind_some, Option.bind_none, Option.getD_some, Option.getD_none, V.keysIn, V.kill, V.has, decide_eq_true_eq, beq_iff_eq, bne_iff_ne, ne_eq, Bool.not_eq_true', Bool.and_true, Bool.and_self, Bool.true_and, if_true, if_false, reduceIte, Bool.false_eq_true, decide_true, decide_false, beq_self_eq_true, Bool.not_true, Bool.not_false, true_and, and_true, and_self, List.append_assoc, List.nil_append, List.cons_append, Int.toNat_natCast, ck, Int.cast_ofNat_Int, Int.reduceToNat, bne_self_eq_false, Bool.or_false, Bool.false_or, Bool.false_and, Bool.and_false, Bool.or_true, Bool.true_or]
  rcases Bool.eq_false_or_eq_true (has (nb l.k.up) n) with h2 | h2
  · have e1 : upF l n cost = l := by unfold upF upO; rw [h1, h2]; rfl
    have e2 : upE l n cost = 10 := by unfold upE; rw [if_neg (by rw [h1]; decide), if_pos h2]
    rw [e1, e2]
    simp (decide := true) only [h1, rneigh_ev, rhas_ev, h2, Tryz.f9, rid, ↓sBp, sBq, List.all_cons, List.all_nil, List.map_cons, List.map_nil, D.shape, Sh.sub, Sh.size, List.getElem?_cons_zero, List.getElem?_cons_succ, Option.bind_some, Option.bind_none, Option.getD_some, Option.getD_none, V.keysIn, V.kill, V.has, decide_eq_true_eq, beq_iff_eq, bne_iff_ne, ne_eq, Bool.not_eq_true', Bool.and_true, Bool.and_self, Bool.true_and, if_true, if_false, reduceIte, Bool.false_eq_true, decide_true, decide_false, beq_self_eq_true, Bool.not_true, Bool.not_false, true_and, and_true, and_self, List.append_assoc, List.nil_append, List.cons_append, Int.toNat_natCast, ck, Int.cast_ofNat_Int, Int.reduceToNat, bne_self_eq_false, Bool.or_false, Bool.false_or, Bool.false_and, Bool.and_false, Bool.or_true, Bool.true_or]
  rcases Bool.eq_false_or_eq_true (costOk n cost) with h3 | h3
  · have e1 : upF l n cost = anewF (upG l n cost) := by unfold upF upO; rw [h1, h2, h3]; rfl
    have e2 : upE l n cost = 0 := by unfold upE; rw [if_neg (by rw [h1]; decide), if_neg (by rw [h2]; decide), if_pos h3]
    rw [e1, e2]
    have hr : right n = true := by
      unfold costOk at h3
      rw [Bool.and_eq_true] at h3
      exact h3.1
    have hr2 := right_nn hr
    have e3 := rset_ok (K+5) l.k.up l.k.c n cost h3
    have eG : upG l n cost = ⟨⟨l.k.self, withN l.k.up n, setN l.k.c n.toNat cost, setN l.k.tD n.toNat (putN farD (-1) 0), setN l.k.tP n.toNat farP⟩, l.r, l.least, l.act, l.wait, setN l.tell n.toNat (reached (cut l.r.d)), setN l.ask n.toNat 0, setN l.reply n.toNat 0⟩ := by
      unfold upG
      rw [clear_set _ hr, clear_set _ hr, clear_set _ hr, setN_setN]
    have e5 := rrefresh_ev K (upG l n cost) (allI_upG hA n cost)
    generalize hm : anewF (upG l n cost) = m at e5
    rw [eG] at e5
    have e5 : evF Tryz.prog env xt (K+8) 41 [.d (lpX l.k.self (withN l.k.up n) (setN l.k.c n.toNat cost) (setN l.k.tD n.toNat (putN farD (-1) 0)) (setN l.k.tP n.toNat farP) l.r.d l.r.p l.r.n l.least l.act l.wait (setN l.tell n.toNat (reached (cut l.r.d))) (setN l.ask n.toNat 0) (setN l.reply n.toNat 0))] = some (.d (lpD m)) := e5
    simp (decide := true) only [h1, rneigh_ev, rhas_ev, h2, e3, rnew_ev, hr2, rtree_ev, rreached_ev, setN_int, setN_tree, e5, Tryz.f9, rid, ↓sBp, sBq, List.all_cons, List.all_nil, List.map_cons, List.map_nil, D.shape, Sh.sub, Sh.size, List.getElem?_cons_zero, List.getElem?_cons_succ, Option.bind_some, Option.bind_none, Option.getD_some, Option.getD_none, V.keysIn, V.kill, V.has, decide_eq_true_eq, beq_iff_eq, bne_iff_ne, ne_eq, Bool.not_eq_true', Bool.and_true, Bool.and_self, Bool.true_and, if_true, if_false, reduceIte, Bool.false_eq_true, decide_true, decide_false, beq_self_eq_true, Bool.not_true, Bool.not_false, true_and, and_true, and_self, List.append_assoc, List.nil_append, List.cons_append, Int.toNat_natCast, ck, Int.cast_ofNat_Int, Int.reduceToNat, bne_self_eq_false, Bool.or_false, Bool.false_or, Bool.false_and, Bool.and_false, Bool.or_true, Bool.true_or]
  · have e1 : upF l n cost = l := by unfold upF upO; rw [h1, h2, h3]; rfl
    have e2 : upE l n cost = 1 := by unfold upE; rw [if_neg (by rw [h1]; decide), if_neg (by rw [h2]; decide), if_neg (by rw [h3]; decide)]
    rw [e1, e2]
    have e3 := rset_no (K+5) l.k.up l.k.c n cost h3
    simp (decide := true) only [h1, rneigh_ev, rhas_ev, h2, e3, Tryz.f9, rid, ↓sBp, sBq, List.all_cons, List.all_nil, List.map_cons, List.map_nil, D.shape, Sh.sub, Sh.size, List.getElem?_cons_zero, List.getElem?_cons_succ, Option.bind_some, Option.bind_none, Option.getD_some, Option.getD_none, V.keysIn, V.kill, V.has, decide_eq_true_eq, beq_iff_eq, bne_iff_ne, ne_eq, Bool.not_eq_true', Bool.and_true, Bool.and_self, Bool.true_and, if_true, if_false, reduceIte, Bool.false_eq_true, decide_true, decide_false, beq_self_eq_true, Bool.not_true, Bool.not_false, true_and, and_true, and_self, List.append_assoc, List.nil_append, List.cons_append, Int.toNat_natCast, ck, Int.cast_ofNat_Int, Int.reduceToNat, bne_self_eq_false, Bool.or_false, Bool.false_or, Bool.false_and, Bool.and_false, Bool.or_true, Bool.true_or]
theorem rlpDown_ev (K : Nat) (l : LP) (n : Int) (hA : AllI l) : evF Tryz.prog env xt (K+9) 10 [.d (lpD l), .d (.s (.int .i64 (n)))] = some (.tcons (.d (lpD (downF l n))) (.tcons (.d (.s (.int .i64 (lnE l n)))) .tnil)) := by
  rw [evF_eq Tryz.func10 (show Tryz.f10.body = some _ from rfl) rfl rfl rfl (by show 2 ≤ 46; decide)]
  rcases Bool.eq_false_or_eq_true (has (nb l.k.up) n) with h2 | h2
  · have e1 : downF l n = anewF (dnG l n) := by unfold downF; rw [if_pos h2]
    have e2 : lnE l n = 0 := by unfold lnE; rw [if_pos h2]
    rw [e1, e2]
    have hr := has_right h2
    have hr2 := right_nn hr
    have e3 := rcutC_ev (K+5) l.k.up l.k.c n hr
    have e5 := rrefresh_ev K (dnG l n) (allI_dnG hA n)
    generalize anewF (dnG l n) = m at e5
    have e5 : evF Tryz.prog env xt (K+8) 41 [.d (lpX l.k.self (withoutN l.k.up n) (setN l.k.c n.toNat 0) (setN l.k.tD n.toNat (putN farD (-1) 0)) (setN l.k.tP n.toNat farP) l.r.d l.r.p l.r.n l.least l.act (upto (fun k w => replyW k n w) l.wait 16) (clear l.tell n) (clear l.ask n) (clear l.reply n))] = some (.d (lpD m)) := e5
    simp (decide := true) only [rneigh_ev, rhas_ev, h2, e3, rnew_ev, hr2, setN_tree, rclear_ev, rgone_ev, e5, Tryz.f10, rid, dp10_5, ↓sBp, sBq, List.all_cons, List.all_nil, List.map_cons, List.map_nil, D.shape, Sh.sub, Sh.size, List.getElem?_cons_zero, List.getElem?_cons_succ, Option.bind_some, Option.bind_none, Option.getD_some, Option.getD_none, V.keysIn, V.kill, V.has, decide_eq_true_eq, beq_iff_eq, bne_iff_ne, ne_eq, Bool.not_eq_true', Bool.and_true, Bool.and_self, Bool.true_and, if_true, if_false, reduceIte, Bool.false_eq_true, decide_true, decide_false, beq_self_eq_true, Bool.not_true, Bool.not_false, true_and, and_true, and_self, List.append_assoc, List.nil_append, List.cons_append, Int.toNat_natCast, ck, Int.cast_ofNat_Int, Int.reduceToNat, bne_self_eq_false, Bool.or_false, Bool.false_or, Bool.false_and, Bool.and_false, Bool.or_true, Bool.true_or]
  · have e1 : downF l n = l := by unfold downF; rw [if_neg (by rw [h2]; decide)]
    have e2 : lnE l n = 9 := by unfold lnE; rw [if_neg (by rw [h2]; decide)]
    rw [e1, e2]
    simp (decide := true) only [rneigh_ev, rhas_ev, h2, Tryz.f10, rid, dp10_5, ↓sBp, sBq, List.all_cons, List.all_nil, List.map_cons, List.map_nil, D.shape, Sh.sub, Sh.size, List.getElem?_cons_zero, List.getElem?_cons_succ, Option.bind_some, Option.bind_none, Option.getD_some, Option.getD_none, V.keysIn, V.kill, V.has, decide_eq_true_eq, beq_iff_eq, bne_iff_ne, ne_eq, Bool.not_eq_true', Bool.and_true, Bool.and_self, Bool.true_and, if_true, if_false, reduceIte, Bool.false_eq_true, decide_true, decide_false, beq_self_eq_true, Bool.not_true, Bool.not_false, true_and, and_true, and_self, List.append_assoc, List.nil_append, List.cons_append, Int.toNat_natCast, ck, Int.cast_ofNat_Int, Int.reduceToNat, bne_self_eq_false, Bool.or_false, Bool.false_or, Bool.false_and, Bool.and_false, Bool.or_true, Bool.true_or]
theorem rlpCost_ev (K : Nat) (l : LP) (n cost : Int) (hA : AllI l) : evF Tryz.prog env xt (K+9) 11 [.d (lpD l), .d (.s (.int .i64 (n))), .d (.s (.int .u32 (cost)))] = some (.tcons (.d (lpD (costF l n cost))) (.tcons (.d (.s (.int .i64 (coE l n cost)))) .tnil)) := by
  rw [evF_eq Tryz.func11 (show Tryz.f11.body = some _ from rfl) rfl rfl rfl (by show 3 ≤ 34; decide)]
  rcases Bool.eq_false_or_eq_true (has (nb l.k.up) n) with h2 | h2
  · rcases Bool.eq_false_or_eq_true (costOk n cost) with h3 | h3
    · have e1 : costF l n cost = anewF (coG l n cost) := by unfold costF; rw [h2, h3]; rfl
      have e2 : coE l n cost = 0 := by unfold coE; rw [if_pos h2, if_pos h3]
      rw [e1, e2]
      have e3 := rset_ok (K+5) l.k.up l.k.c n cost h3
      have e5 := rrefresh_ev K (coG l n cost) (allI_coG hA n cost)
      generalize anewF (coG l n cost) = m at e5
      have e5 : evF Tryz.prog env xt (K+8) 41 [.d (lpX l.k.self (withN l.k.up n) (setN l.k.c n.toNat cost) l.k.tD l.k.tP l.r.d l.r.p l.r.n l.least l.act l.wait l.tell l.ask l.reply)] = some (.d (lpD m)) := e5
      simp (decide := true) only [rneigh_ev, rhas_ev, h2, e3, e5, Tryz.f11, rid, ↓sBp, sBq, List.all_cons, List.all_nil, List.map_cons, List.map_nil, D.shape, Sh.sub, Sh.size, List.getElem?_cons_zero, List.getElem?_cons_succ, Option.bind_some, Option.bind_none, Option.getD_some, Option.getD_none, V.keysIn, V.kill, V.has, decide_eq_true_eq, beq_iff_eq, bne_iff_ne, ne_eq, Bool.not_eq_true', Bool.and_true, Bool.and_self, Bool.true_and, if_true, if_false, reduceIte, Bool.false_eq_true, decide_true, decide_false, beq_self_eq_true, Bool.not_true, Bool.not_false, true_and, and_true, and_self, List.append_assoc, List.nil_append, List.cons_append, Int.toNat_natCast, ck, Int.cast_ofNat_Int, Int.reduceToNat, bne_self_eq_false, Bool.or_false, Bool.false_or, Bool.false_and, Bool.and_false, Bool.or_true, Bool.true_or]
    · have e1 : costF l n cost = l := by unfold costF; rw [h2, h3]; rfl
      have e2 : coE l n cost = 1 := by unfold coE; rw [if_pos h2, if_neg (by rw [h3]; decide)]
      rw [e1, e2]
      have e3 := rset_no (K+5) l.k.up l.k.c n cost h3
      simp (decide := true) only [rneigh_ev, rhas_ev, h2, e3, Tryz.f11, rid, ↓sBp, sBq, List.all_cons, List.all_nil, List.map_cons, List.map_nil, D.shape, Sh.sub, Sh.size, List.getElem?_cons_zero, List.getElem?_cons_succ, Option.bind_some, Option.bind_none, Option.getD_some, Option.getD_none, V.keysIn, V.kill, V.has, decide_eq_true_eq, beq_iff_eq, bne_iff_ne, ne_eq, Bool.not_eq_true', Bool.and_true, Bool.and_self, Bool.true_and, if_true, if_false, reduceIte, Bool.false_eq_true, decide_true, decide_false, beq_self_eq_true, Bool.not_true, Bool.not_false, true_and, and_true, and_self, List.append_assoc, List.nil_append, List.cons_append, Int.toNat_natCast, ck, Int.cast_ofNat_Int, Int.reduceToNat, bne_self_eq_false, Bool.or_false, Bool.false_or, Bool.false_and, Bool.and_false, Bool.or_true, Bool.true_or]
  · have e1 : costF l n cost = l := by unfold costF; rw [h2]; rfl
    have e2 : coE l n cost = 9 := by unfold coE; rw [if_neg (by rw [h2]; decide)]
    rw [e1, e2]
    simp (decide := true) only [rneigh_ev, rhas_ev, h2, Tryz.f11, rid, ↓sBp, sBq, List.all_cons, List.all_nil, List.map_cons, List.map_nil, D.shape, Sh.sub, Sh.size, List.getElem?_cons_zero, List.getElem?_cons_succ, Option.bind_some, Option.bind_none, Option.getD_some, Option.getD_none, V.keysIn, V.kill, V.has, decide_eq_true_eq, beq_iff_eq, bne_iff_ne, ne_eq, Bool.not_eq_true', Bool.and_true, Bool.and_self, Bool.true_and, if_true, if_false, reduceIte, Bool.false_eq_true, decide_true, decide_false, beq_self_eq_true, Bool.not_true, Bool.not_false, true_and, and_true, and_self, List.append_assoc, List.nil_append, List.cons_append, Int.toNat_natCast, ck, Int.cast_ofNat_Int, Int.reduceToNat, bne_self_eq_false, Bool.or_false, Bool.false_or, Bool.false_and, Bool.and_false, Bool.or_true, Bool.true_or]
theorem ranyF_ev (K : Nat) (l : Nat → Int) : evF Tryz.prog env xt (K+3) 62 [.d (arr16 l)] = some (.d (.s (.int .i64 (anyF l)))) := rany_ev K l
theorem anyF_eq' (l : Nat → Int) : anyF l = setOf (fun k => l k != 0) 16 := by
  unfold anyF setOf
  refine upto_cong (fun k x _ => ?_) 16 (Nat.le_refl _)
  unfold any1
  by_cases h : l k = 0 <;> simp [h]
theorem inI_anyF' (l : Nat → Int) : inI (anyF l) := by rw [anyF_eq']; exact inI_setOf _ _
theorem pend_eq {l : LP} (hA : AllI l) {n : Nat} (hn : n < 16) : has (dueF l) n = (bits .or .i64 (bits .or .i64 (l.tell n) (l.ask n)) (l.reply n) != 0) := by
  have e1 : has (dueF l) n = ((l.tell n != 0) || (l.ask n != 0) || (l.reply n != 0)) := by
    unfold dueF
    rw [has_or (inI_bits _ _ _) (inI_anyF' _), has_or (inI_anyF' _) (inI_anyF' _), anyF_eq', anyF_eq', anyF_eq', has_setOf _ hn, has_setOf _ hn, has_setOf _ hn]
  have e2 := or_eq_zero (inI_bits .or (l.tell n) (l.ask n)) (hA.reply n)
  have e3 := or_eq_zero (hA.tell n) (hA.ask n)
  rw [e1]
  by_cases c1 : l.tell n = 0
  · by_cases c2 : l.ask n = 0
    · by_cases c3 : l.reply n = 0
      · rw [e2.2 ⟨e3.2 ⟨c1, c2⟩, c3⟩, c1, c2, c3]; rfl
      · have : bits .or .i64 (bits .or .i64 (l.tell n) (l.ask n)) (l.reply n) ≠ 0 := fun e => c3 (e2.1 e).2
        rw [show (bits .or .i64 (bits .or .i64 (l.tell n) (l.ask n)) (l.reply n) != 0) = true by simpa using this]
        simp [c3]
    · have : bits .or .i64 (bits .or .i64 (l.tell n) (l.ask n)) (l.reply n) ≠ 0 := fun e => c2 (e3.1 (e2.1 e).1).2
      rw [show (bits .or .i64 (bits .or .i64 (l.tell n) (l.ask n)) (l.reply n) != 0) = true by simpa using this]
      simp [c2]
  · have : bits .or .i64 (bits .or .i64 (l.tell n) (l.ask n)) (l.reply n) ≠ 0 := fun e => c1 (e3.1 (e2.1 e).1).1
    rw [show (bits .or .i64 (bits .or .i64 (l.tell n) (l.ask n)) (l.reply n) != 0) = true by simpa using this]
    simp [c1]
theorem rpending_ev (K : Nat) (l : LP) (n : Int) (hA : AllI l) : evF Tryz.prog env xt (K+5) 50 [.d (lpD l), .d (.s (.int .i64 (n)))] = some (.d (.s (.bool (has (dueF l) n)))) := by
  rw [evF_eq Tryz.func50 (show Tryz.f50.body = some _ from rfl) rfl rfl rfl (by show 2 ≤ 24; decide)]
  by_cases h : right n = true
  · obtain ⟨m, hm, rfl⟩ := right_eq h
    have h2 := right_nn h
    have e := pend_eq hA hm
    simp (decide := true) only [h, h2, rright_ev, e, Tryz.f50, rid, dp50_1, ↓sBp, sBq, List.all_cons, List.all_nil, List.map_cons, List.map_nil, D.shape, Sh.sub, Sh.size, List.getElem?_cons_zero, List.getElem?_cons_succ, Option.bind_some, Option.bind_none, Option.getD_some, Option.getD_none, V.keysIn, V.kill, V.has, decide_eq_true_eq, beq_iff_eq, bne_iff_ne, ne_eq, Bool.not_eq_true', Bool.and_true, Bool.and_self, Bool.true_and, if_true, if_false, reduceIte, Bool.false_eq_true, decide_true, decide_false, beq_self_eq_true, Bool.not_true, Bool.not_false, true_and, and_true, and_self, List.append_assoc, List.nil_append, List.cons_append, Int.toNat_natCast, ck, Int.cast_ofNat_Int, Int.reduceToNat, bne_self_eq_false, Bool.or_false, Bool.false_or, Bool.false_and, Bool.and_false, Bool.or_true, Bool.true_or]
  · have e : has (dueF l) n = false := by unfold has; simp [h]
    simp (decide := true) only [h, rright_ev, e, Tryz.f50, rid, dp50_1, ↓sBp, sBq, List.all_cons, List.all_nil, List.map_cons, List.map_nil, D.shape, Sh.sub, Sh.size, List.getElem?_cons_zero, List.getElem?_cons_succ, Option.bind_some, Option.bind_none, Option.getD_some, Option.getD_none, V.keysIn, V.kill, V.has, decide_eq_true_eq, beq_iff_eq, bne_iff_ne, ne_eq, Bool.not_eq_true', Bool.and_true, Bool.and_self, Bool.true_and, if_true, if_false, reduceIte, Bool.false_eq_true, decide_true, decide_false, beq_self_eq_true, Bool.not_true, Bool.not_false, true_and, and_true, and_self, List.append_assoc, List.nil_append, List.cons_append, Int.toNat_natCast, ck, Int.cast_ofNat_Int, Int.reduceToNat, bne_self_eq_false, Bool.or_false, Bool.false_or, Bool.false_and, Bool.and_false, Bool.or_true, Bool.true_or]
theorem rdrain_ev (K : Nat) (l : LP) (n : Int) (hA : AllI l) : evF Tryz.prog env xt (K+6) 13 [.d (lpD l), .d (.s (.int .i64 (n)))] = some (.tcons (.d (lpD (drainF l n))) (.tcons (.sl .ro shI (drainI l n)) .tnil)) := by
  rw [evF_eq Tryz.func13 (show Tryz.f13.body = some _ from rfl) rfl rfl rfl (by show 2 ≤ 45; decide)]
  have e := rpending_ev K l n hA
  rcases Bool.eq_false_or_eq_true (has (dueF l) n) with h2 | h2
  · have e1 : drainF l n = hushG l n := by unfold drainF; rw [if_pos h2]
    have e2 : drainI l n = itemsTo (cut l.r.d) (cut l.r.p) (l.tell n.toNat) (l.ask n.toNat) (l.reply n.toNat) 16 := by unfold drainI; rw [if_pos h2]
    rw [e1, e2]
    have hr := right_nn (has_right h2)
    have e3 := ritems_ev (K+2) (cut l.r.d) (cut l.r.p) (l.tell n.toNat) (l.ask n.toNat) (l.reply n.toNat) (hA.ask _) (hA.reply _)
    simp (decide := true) only [e, h2, hr, rtree_ev, e3, rclear_ev, Tryz.f13, rid, dp13_3, dp13_4, ↓sBp, sBq, List.all_cons, List.all_nil, List.map_cons, List.map_nil, D.shape, Sh.sub, Sh.size, List.getElem?_cons_zero, List.getElem?_cons_succ, Option.bind_some, Option.bind_none, Option.getD_some, Option.getD_none, V.keysIn, V.kill, V.has, decide_eq_true_eq, beq_iff_eq, bne_iff_ne, ne_eq, Bool.not_eq_true', Bool.and_true, Bool.and_self, Bool.true_and, if_true, if_false, reduceIte, Bool.false_eq_true, decide_true, decide_false, beq_self_eq_true, Bool.not_true, Bool.not_false, true_and, and_true, and_self, List.append_assoc, List.nil_append, List.cons_append, Int.toNat_natCast, ck, Int.cast_ofNat_Int, Int.reduceToNat, bne_self_eq_false, Bool.or_false, Bool.false_or, Bool.false_and, Bool.and_false, Bool.or_true, Bool.true_or]
    try rfl
  · have e1 : drainF l n = l := by unfold drainF; rw [if_neg (by rw [h2]; decide)]
    have e2 : drainI l n = [] := by unfold drainI; rw [if_neg (by rw [h2]; decide)]
    rw [e1, e2]
    simp (decide := true) only [e, h2, Tryz.f13, rid, dp13_3, dp13_4, ↓sBp, sBq, List.all_cons, List.all_nil, List.map_cons, List.map_nil, D.shape, Sh.sub, Sh.size, List.getElem?_cons_zero, List.getElem?_cons_succ, Option.bind_some, Option.bind_none, Option.getD_some, Option.getD_none, V.keysIn, V.kill, V.has, decide_eq_true_eq, beq_iff_eq, bne_iff_ne, ne_eq, Bool.not_eq_true', Bool.and_true, Bool.and_self, Bool.true_and, if_true, if_false, reduceIte, Bool.false_eq_true, decide_true, decide_false, beq_self_eq_true, Bool.not_true, Bool.not_false, true_and, and_true, and_self, List.append_assoc, List.nil_append, List.cons_append, Int.toNat_natCast, ck, Int.cast_ofNat_Int, Int.reduceToNat, bne_self_eq_false, Bool.or_false, Bool.false_or, Bool.false_and, Bool.and_false, Bool.or_true, Bool.true_or]
theorem zKn : Z36 = knD 0 0 (fun _ => 0) (fun _ _ => 0) (fun _ _ => 0) := nr rfl
theorem rlpNew_ev (K : Nat) (self : Int) : evF Tryz.prog env xt (K+4) 7 [.d (.s (.int .i64 (self)))] = some (.d (lpD (newF self))) := by
  rw [evF_eq Tryz.func7 (show Tryz.f7.body = some _ from rfl) rfl rfl rfl (by show 1 ≤ 22; decide)]
  have e1 := rempty_ev (K+1) self
  have e2 := rfnew_ev (K+1) self
  simp (decide := true) only [e1, e2, z101, zKn, Tryz.f7, rid, kl7_3, ↓sBp, sBq, List.all_cons, List.all_nil, List.map_cons, List.map_nil, D.shape, Sh.sub, Sh.size, List.getElem?_cons_zero, List.getElem?_cons_succ, Option.bind_some, Option.bind_none, Option.getD_some, Option.getD_none, V.keysIn, V.kill, V.has, decide_eq_true_eq, beq_iff_eq, bne_iff_ne, ne_eq, Bool.not_eq_true', Bool.and_true, Bool.and_self, Bool.true_and, if_true, if_false, reduceIte, Bool.false_eq_true, decide_true, decide_false, beq_self_eq_true, Bool.not_true, Bool.not_false, true_and, and_true, and_self, List.append_assoc, List.nil_append, List.cons_append, Int.toNat_natCast, ck, Int.cast_ofNat_Int, Int.reduceToNat, bne_self_eq_false, Bool.or_false, Bool.false_or, Bool.false_and, Bool.and_false, Bool.or_true, Bool.true_or]
  rw [iter_run (S := fun k => ⟨tab .junk [(2, .ptr 2 (shL) [] (shL)), (3, .ptr 3 (shL) [] (shL)), (12, .d (.s (.int .i64 (k))))], tab none [(2, some (.box (lpX 0 0 (fun _ => 0) (fun _ _ => 0) (fun _ _ => 0) (fun _ => 0) (fun _ => 0) (fun _ => 0) (fun _ => 0) 0 (fun _ => 0) (fun _ => 0) (fun _ => 0) (fun _ => 0)))), (3, some (.box (lpX self 0 (fun _ => 0) (newTo (putN farD (-1) 0) k) (newTo farP k) (putN farD self 0) farP farP (putN farD self 0) 0 (fun _ => 0) (fun _ => 0) (fun _ => 0) (fun _ => 0))))]⟩) (n := 16) (h0 := ?h0) (hn := lt_loopFuel (by decide)) (step := ?step)]
  case h0 => rfl
  case step =>
    intro k hk
    have hk1 : (k : Int) < 16 := by omega
    have hk0 : (0 : Int) ≤ k := by omega
    have hkw := wrap_succ k (by omega)
    have e3 := newTo_succ (putN farD (-1) 0) k
    have e4 := newTo_succ farP k
    simp (decide := true) only [hk1, hk0, hkw, rnew_ev, setN_tree, e3, e4, Tryz.f7, rid, kl7_3, ↓sBp, sBq, List.all_cons, List.all_nil, List.map_cons, List.map_nil, D.shape, Sh.sub, Sh.size, List.getElem?_cons_zero, List.getElem?_cons_succ, Option.bind_some, Option.bind_none, Option.getD_some, Option.getD_none, V.keysIn, V.kill, V.has, decide_eq_true_eq, beq_iff_eq, bne_iff_ne, ne_eq, Bool.not_eq_true', Bool.and_true, Bool.and_self, Bool.true_and, if_true, if_false, reduceIte, Bool.false_eq_true, decide_true, decide_false, beq_self_eq_true, Bool.not_true, Bool.not_false, true_and, and_true, and_self, List.append_assoc, List.nil_append, List.cons_append, Int.toNat_natCast, ck, Int.cast_ofNat_Int, Int.reduceToNat, bne_self_eq_false, Bool.or_false, Bool.false_or, Bool.false_and, Bool.and_false, Bool.or_true, Bool.true_or]
  simp (decide := true) only [Tryz.f7, rid, kl7_3, ↓sBp, sBq, List.all_cons, List.all_nil, List.map_cons, List.map_nil, D.shape, Sh.sub, Sh.size, List.getElem?_cons_zero, List.getElem?_cons_succ, Option.bind_some, Option.bind_none, Option.getD_some, Option.getD_none, V.keysIn, V.kill, V.has, decide_eq_true_eq, beq_iff_eq, bne_iff_ne, ne_eq, Bool.not_eq_true', Bool.and_true, Bool.and_self, Bool.true_and, if_true, if_false, reduceIte, Bool.false_eq_true, decide_true, decide_false, beq_self_eq_true, Bool.not_true, Bool.not_false, true_and, and_true, and_self, List.append_assoc, List.nil_append, List.cons_append, Int.toNat_natCast, ck, Int.cast_ofNat_Int, Int.reduceToNat, bne_self_eq_false, Bool.or_false, Bool.false_or, Bool.false_and, Bool.and_false, Bool.or_true, Bool.true_or]
  rfl
/-- The body of the document's Heard, run. -/
noncomputable def rheardX (ext : Nat → List V → Option V) (n : Nat) (vs : List V) : Option V :=
  ob Tryz.f12.body fun c => resX env Tryz.f12.results.toList (evC env (evF Tryz.prog env ext n) 12 loopFuel c (enter vs))
theorem dpRH : env.dp 12 4 = [] := nr rfl
set_option maxHeartbeats 2000000 in
theorem rheard_gen (K : Nat) (l : LP) (hA : AllI l) (n : Int) (its : List Itm) (v : V) (hv : ∀ m, argV m v = some v) (q3 : ∀ d p : Nat → Int, evF Tryz.prog env xt (K+8) 45 [.d (treeD d p), v] = some (.d (treeD (appTo its ⟨d, p⟩ its.length).d (appTo its ⟨d, p⟩ its.length).p)))
    (q4 : evF Tryz.prog env xt (K+8) 46 [v] = some (.d (.s (.int .i64 (destTo its 1 its.length))))) (q5 : evF Tryz.prog env xt (K+8) 48 [v] = some (.d (.s (.int .i64 (destTo its 2 its.length))))) : rheardX xt (K+8) [.d (lpD l), .d (.s (.int .i64 (n))), v] = some (.tcons (.d (lpD (heardF l n its))) (.tcons (.d (.s (.int .i64 (lnE l n)))) .tnil)) := by
  unfold rheardX
  rw [show Tryz.f12.body = some _ from rfl, ob_some]
  rcases Bool.eq_false_or_eq_true (has (nb l.k.up) n) with h2 | h2
  · have e1 : heardF l n its = anewF (hrG l n its) := by unfold heardF; rw [if_pos h2]
    have e2 : lnE l n = 0 := by unfold lnE; rw [if_pos h2]
    rw [e1, e2]
    have hr := has_right h2
    have hr2 := right_nn hr
    obtain ⟨m, hm, rfl⟩ : ∃ m : Nat, m < 16 ∧ n = m := ⟨n.toNat, by omega, by omega⟩
    have e3 := q3 (l.k.tD m) (l.k.tP m)
    have e4 := q4
    have e5 := q5
    clear q3 q4 q5
    have hAG := allI_hrG hA m its
    have hG : hrG l m its = ⟨⟨l.k.self, l.k.up, l.k.c, setN l.k.tD m (appTo its ⟨l.k.tD m, l.k.tP m⟩ its.length).d, setN l.k.tP m (appTo its ⟨l.k.tD m, l.k.tP m⟩ its.length).p⟩, l.r, l.least, l.act,
      hrW (destTo its 2 its.length) m l.wait (listTo (destTo its 2 its.length) 16).length, l.tell, l.ask, setN l.reply m (bits .or .i64 (l.reply m) (destTo its 1 its.length))⟩ := rfl
    rw [hG] at hAG ⊢
    generalize appTo its ⟨l.k.tD m, l.k.tP m⟩ its.length = T at e3 hAG ⊢
    generalize destTo its 1 its.length = asq at e4 hAG ⊢
    generalize destTo its 2 its.length = rs at e5 hAG ⊢
    have hlen := listTo_len rs 16
    have hle := ints_length (listTo rs 16)
    simp (decide := true) only [hv, dpRH, rneigh_ev, rhas_ev, h2, hr2, e3, setN_tree, e4, setN_int, e5, rlist_ev, Tryz.f12, rid, kl12_6, ↓sBp, sBq, List.all_cons, List.all_nil, List.map_cons, List.map_nil, D.shape, Sh.sub, Sh.size, List.getElem?_cons_zero, List.getElem?_cons_succ, Option.bind_some, Option.bind_none, Option.getD_some, Option.getD_none, V.keysIn, V.kill, V.has, decide_eq_true_eq, beq_iff_eq, bne_iff_ne, ne_eq, Bool.not_eq_true', Bool.and_true, Bool.and_self, Bool.true_and, if_true, if_false, reduceIte, Bool.false_eq_true, decide_true, decide_false, beq_self_eq_true, Bool.not_true, Bool.not_false, true_and, and_true, and_self, List.append_assoc, List.nil_append, List.cons_append, Int.toNat_natCast, ck, Int.cast_ofNat_Int, Int.reduceToNat, bne_self_eq_false, Bool.or_false, Bool.false_or, Bool.false_and, Bool.and_false, Bool.or_true, Bool.true_or]
    rw [iter_run (S := fun i => ⟨tab .junk [(1, .d (.s (.int .i64 ((m : Nat))))), (3, .ptr 3 (shL) [] (shL)), (6, .ptr 6 (shL) [] (shL)), (38, .sl (.tg 38) cI (ints (listTo rs 16))), (39, .d (.s (.int .i64 ((listTo rs 16).length)))), (40, .d (.s (.int .i64 (i))))], tab none [(3, some (.box (lpX l.k.self l.k.up l.k.c (setN l.k.tD m T.d) (setN l.k.tP m T.p) l.r.d l.r.p l.r.n l.least l.act (hrW rs m l.wait i) l.tell l.ask (setN l.reply m (bits .or .i64 (l.reply m) asq))))), (6, some (.box (Z45))), (38, some .row)]⟩) (n := (listTo rs 16).length) (h0 := ?h0) (hn := ?hn) (step := ?step)]
    case h0 => rw [hle]; rfl
    case hn => exact lt_loopFuel (by omega)
    case step =>
      intro i hi
      have hi1 : (i : Int) < ((listTo rs 16).length : Int) := by omega
      have hi0 : (0 : Int) ≤ i := by omega
      have hiw := wrap_succ i (by omega)
      obtain ⟨n, hn, hh, he⟩ := listTo_get rs hi
      have hg := ints_get he
      have es := hrW_succ rs m l.wait i he
      generalize hrW rs m l.wait i = w at es
      simp (decide := true) only [hi1, hi0, hiw, hg, rreply_ev, es, Tryz.f12, rid, kl12_6, ↓sBp, sBq, List.all_cons, List.all_nil, List.map_cons, List.map_nil, D.shape, Sh.sub, Sh.size, List.getElem?_cons_zero, List.getElem?_cons_succ, Option.bind_some, Option.bind_none, Option.getD_some, Option.getD_none, V.keysIn, V.kill, V.has, decide_eq_true_eq, beq_iff_eq, bne_iff_ne, ne_eq, Bool.not_eq_true', Bool.and_true, Bool.and_self, Bool.true_and, if_true, if_false, reduceIte, Bool.false_eq_true, decide_true, decide_false, beq_self_eq_true, Bool.not_true, Bool.not_false, true_and, and_true, and_self, List.append_assoc, List.nil_append, List.cons_append, Int.toNat_natCast, ck, Int.cast_ofNat_Int, Int.reduceToNat, bne_self_eq_false, Bool.or_false, Bool.false_or, Bool.false_and, Bool.and_false, Bool.or_true, Bool.true_or]
    have e6 := rrefresh_ev K _ hAG
    generalize anewF ⟨⟨l.k.self, l.k.up, l.k.c, setN l.k.tD m T.d, setN l.k.tP m T.p⟩, l.r, l.least, l.act, hrW rs m l.wait (listTo rs 16).length, l.tell, l.ask, setN l.reply m (bits .or .i64 (l.reply m) asq)⟩ = q at e6 ⊢
    have e6 : evF Tryz.prog env xt (K+8) 41 [.d (lpX l.k.self l.k.up l.k.c (setN l.k.tD m T.d) (setN l.k.tP m T.p) l.r.d l.r.p l.r.n l.least l.act (hrW rs m l.wait (listTo rs 16).length) l.tell l.ask (setN l.reply m (bits .or .i64 (l.reply m) asq)))] = some (.d (lpD q)) := e6
    simp (decide := true) only [Int.lt_irrefl, e6, Tryz.f12, rid, kl12_6, ↓sBp, sBq, List.all_cons, List.all_nil, List.map_cons, List.map_nil, D.shape, Sh.sub, Sh.size, List.getElem?_cons_zero, List.getElem?_cons_succ, Option.bind_some, Option.bind_none, Option.getD_some, Option.getD_none, V.keysIn, V.kill, V.has, decide_eq_true_eq, beq_iff_eq, bne_iff_ne, ne_eq, Bool.not_eq_true', Bool.and_true, Bool.and_self, Bool.true_and, if_true, if_false, reduceIte, Bool.false_eq_true, decide_true, decide_false, beq_self_eq_true, Bool.not_true, Bool.not_false, true_and, and_true, and_self, List.append_assoc, List.nil_append, List.cons_append, Int.toNat_natCast, ck, Int.cast_ofNat_Int, Int.reduceToNat, bne_self_eq_false, Bool.or_false, Bool.false_or, Bool.false_and, Bool.and_false, Bool.or_true, Bool.true_or]
  · have e1 : heardF l n its = l := by unfold heardF; rw [if_neg (by rw [h2]; decide)]
    have e2 : lnE l n = 9 := by unfold lnE; rw [if_neg (by rw [h2]; decide)]
    rw [e1, e2]
    simp (decide := true) only [rneigh_ev, rhas_ev, h2, Tryz.f12, rid, kl12_6, ↓sBp, sBq, List.all_cons, List.all_nil, List.map_cons, List.map_nil, D.shape, Sh.sub, Sh.size, List.getElem?_cons_zero, List.getElem?_cons_succ, Option.bind_some, Option.bind_none, Option.getD_some, Option.getD_none, V.keysIn, V.kill, V.has, decide_eq_true_eq, beq_iff_eq, bne_iff_ne, ne_eq, Bool.not_eq_true', Bool.and_true, Bool.and_self, Bool.true_and, if_true, if_false, reduceIte, Bool.false_eq_true, decide_true, decide_false, beq_self_eq_true, Bool.not_true, Bool.not_false, true_and, and_true, and_self, List.append_assoc, List.nil_append, List.cons_append, Int.toNat_natCast, ck, Int.cast_ofNat_Int, Int.reduceToNat, bne_self_eq_false, Bool.or_false, Bool.false_or, Bool.false_and, Bool.and_false, Bool.or_true, Bool.true_or]
theorem rheard_ev (K : Nat) (l : LP) (hA : AllI l) (n : Int) (its : List Itm) (hl : its.length < 1000000) : rheardX xt (K+8) [.d (lpD l), .d (.s (.int .i64 (n))), .sl .ro shI (itms its)] = some (.tcons (.d (lpD (heardF l n its))) (.tcons (.d (.s (.int .i64 (lnE l n)))) .tnil)) :=
  rheard_gen K l hA n its _ (fun _ => rfl) (fun d p => rmapply_ev (K+5) d p its hl) (rasked_ev (K+4) its hl) (rreplied_ev (K+4) its hl)
theorem rheard_raw (K : Nat) (l : LP) (hA : AllI l) (n : Int) (a : Option Addr) (c : Nat) : rheardX xt (K+8) [.d (lpD l), .d (.s (.int .i64 (n))), .d (.s (.slice a 0 c))] = some (.tcons (.d (lpD (heardF l n []))) (.tcons (.d (.s (.int .i64 (lnE l n)))) .tnil)) :=
  rheard_gen K l hA n [] _ (fun _ => rfl) (fun d p => rmapply_raw (K+5) d p a c) (rasked_raw (K+4) a c) (rreplied_raw (K+4) a c)
end Go.Proofs.YtjceimcepogkaaaGreatDoor.Ev
/- Two nodes that tell each other all: from both ends coming up to where nothing is pending. -/
namespace Go.Proofs.YtjceimcepogkaaaGreatDoor.Ev
open Go
attribute [local congr] ob_congr sq_congr cd_congr ite_congr1 iter_congr it1_congr jumps_congr
set_option maxRecDepth 100000
set_option linter.unusedSimpArgs false
set_option linter.unusedVariables false
noncomputable def rx (p : LP × LP) : LP × LP := (heardF (drainF p.1 1) 1 (drainM p.2 0), heardF (drainF p.2 0) 0 (drainM p.1 1))
noncomputable def xyTo (c d : Int) (k : Nat) : LP × LP := upto (fun _ p => rx p) (upF (newF 0) 1 c, upF (newF 1) 0 d) k
theorem xyTo_succ (c d : Int) (k : Nat) : xyTo c d (k + 1) = rx (xyTo c d k) := by simp only [xyTo, upto]
theorem appTo_one (x : Itm) (S : TrF) : appTo [x] S 1 = app1 x S := rfl
def hdB (o : Nat) (j : Nat) : Int := if j = o then 0 else 4294967295
def hpC (s o : Nat) (j : Nat) : Int := if j = s then (o : Int) else -1
def hdC (s o : Nat) (d : Int) (j : Nat) : Int := if j = s then d else hdB o j
section
variable {s o : Nat} {c d : Int}
theorem nd_congr {t : Bool} {hd hp hd' hp' : Nat → Int} {tl : Int} {l : LP} (h : Nd s o c t hd hp tl l) (h1 : ∀ j, j < 16 → hd j = hd' j) (h2 : ∀ j, j < 16 → hp j = hp' j) : Nd s o c t hd' hp' tl l :=
  ⟨h.self, h.up, h.ce, fun j hj => (h.td j hj).trans (h1 j hj), fun j hj => (h.tp j hj).trans (h2 j hj), h.rd, h.rp, h.le, h.act, h.tell, h.ask, h.reply⟩
theorem nd_start (p : Pr s o c) : Nd s o c false (fun _ => 4294967295) (fun _ => -1) (withN 0 s) (upF (newF s) o c) := by
  obtain ⟨s16, o16, so, c1, c2⟩ := p
  have p : Pr s o c := ⟨s16, o16, so, c1, c2⟩
  have ne : ((o : Int) == (s : Int)) = false := by
    have : (o : Int) ≠ s := by omega
    simpa using this
  have hu : upO (newF s) o c = true := by
    unfold upO
    have e1 : ((o : Int) == (newF (s : Int)).k.self) = false := ne
    have e2 : has (nb (newF (s : Int)).k.up) o = false := by
      have : nb (newF (s : Int)).k.up = 0 := by
        show bits .and .i64 0 65535 = 0
        rfl
      rw [this, has_zero]
    rw [e1, e2]
    unfold costOk
    rw [right_of o16, decide_eq_true c1, decide_eq_true c2]; rfl
  unfold upF
  rw [if_pos hu]
  have e0 : ∀ q, q < 16 → putN farD (s : Int) 0 q = if q = s then 0 else 4294967295 := fun q hq => by
    unfold putN
    rw [if_pos (right_of s16), Int.toNat_natCast]
    by_cases h : q = s
    · subst h; rw [setN_eq, if_pos rfl]
    · rw [setN_ne _ _ h, farD_at hq, if_neg h]
  have hr : reached (cut (putN farD (s : Int) 0)) = withN 0 s := setOf_one s16 fun j hj => by
    have : cut (putN farD (s : Int) 0) j = putN farD (s : Int) 0 j := by unfold cut fillTo; rw [if_pos hj]
    rw [this, e0 j hj]
    by_cases h : j = s <;> simp [h]
  have hg : Nd s o c false (fun _ => 4294967295) (fun _ => -1) (withN 0 s) (upG (newF s) o c) := by
    refine ⟨rfl, rfl, ?_, fun j hj => ?_, fun j hj => ?_, fun j hj => ?_, fun j hj => ?_, fun j hj => ?_, rfl, fun j hj => ?_, fun j => ?_, fun j => ?_⟩
    · show setN _ (o : Int).toNat c o = c
      rw [Int.toNat_natCast, setN_eq]
    · show setN _ (o : Int).toNat (putN farD (-1) 0) o j = _
      rw [Int.toNat_natCast, setN_eq]
      exact farD_at hj
    · show setN _ (o : Int).toNat farP o j = _
      rw [Int.toNat_natCast, setN_eq]
      exact farP_at hj
    · show putN farD (s : Int) 0 j = _
      rw [e0 j hj]
      unfold rwD; simp
    · show farP j = _
      rw [farP_at hj]
      unfold rwP; simp
    · show putN farD (s : Int) 0 j = _
      rw [e0 j hj]
      unfold rwD; simp
    · show setN (clear (fun _ => 0) (o : Int)) (o : Int).toNat (reached (cut (putN farD (s : Int) 0))) j = _
      rw [Int.toNat_natCast, hr]
      by_cases e : j = o
      · subst e; rw [setN_eq, if_pos rfl]
      · rw [setN_ne _ _ e, if_neg e]
        unfold clear
        rw [if_pos (right_of o16), Int.toNat_natCast, setN_ne _ _ e]
    · show clear (fun _ => 0) (o : Int) j = 0
      unfold clear
      rw [if_pos (right_of o16)]
      unfold setN; split <;> rfl
    · show clear (fun _ => 0) (o : Int) j = 0
      unfold clear
      rw [if_pos (right_of o16)]
      unfold setN; split <;> rfl
  have := nd_anew (t' := false) p hg (fun j _ _ _ => rfl) rfl (Or.inl rfl) (inI_withN inI_zero _)
  simpa using this
theorem nd_one {x y : LP} (p : Pr s o c) (p' : Pr o s d) (hx : Nd s o c false (fun _ => 4294967295) (fun _ => -1) (withN 0 s) x) (hy : Nd o s d false (fun _ => 4294967295) (fun _ => -1) (withN 0 o) y) :
    Nd s o c true (hdB o) (fun _ => -1) (withN 0 o) (heardF (drainF x o) o (drainM y s)) := by
  have hi := hy.items p' p.o16
  have e1 : rwD o s d false o = 0 := by unfold rwD; simp
  have e2 : rwP o s false o = -1 := by unfold rwP; simp
  rw [e1, e2] at hi
  have hxd := hx.drain p
  have hr : rightI (o : Int) 0 0 (-1) = true := by
    unfold rightI
    rw [right_of p.o16]; rfl
  have := hxd.heard p (t' := true) (its := drainM y s) (hd' := hdB o) (hp' := fun _ => -1) (fun j hj => ?_) (fun x hx => by
    rw [hi] at hx
    rw [List.mem_singleton] at hx
    rw [hx]) (fun j _ _ h => by unfold hdB; rw [if_neg h]) (by unfold hdB; simp) (Or.inr ⟨rfl, rfl⟩)
  · simpa using this
  · rw [hi]
    have ea : appTo [⟨(o : Int), 0, 0, -1⟩] ⟨(drainF x o).k.tD o, (drainF x o).k.tP o⟩ 1 = ⟨setN ((drainF x o).k.tD o) o 0, setN ((drainF x o).k.tP o) o (-1)⟩ := by
      rw [appTo_one]
      unfold app1
      simp only [hr, if_true, Int.toNat_natCast]
    show (appTo _ _ 1).d j = _ ∧ (appTo _ _ 1).p j = _
    rw [ea]
    show setN _ o 0 j = hdB o j ∧ setN _ o (-1) j = -1
    unfold hdB
    by_cases e : j = o
    · subst e; rw [setN_eq, setN_eq, if_pos rfl]; exact ⟨rfl, rfl⟩
    · rw [setN_ne _ _ e, setN_ne _ _ e, if_neg e]
      exact ⟨hxd.td j hj, hxd.tp j hj⟩
theorem nd_two {x y : LP} (p : Pr s o c) (p' : Pr o s d) {hd hp : Nat → Int} (hx : Nd s o c true (hdB o) (fun _ => -1) (withN 0 o) x) (hy : Nd o s d true hd hp (withN 0 s) y) :
    Nd s o c true (hdC s o d) (hpC s o) 0 (heardF (drainF x o) o (drainM y s)) := by
  have hi := hy.items p' p.s16
  have so := p.so
  have e1 : rwD o s d true s = d := by unfold rwD; simp [so]
  have e2 : rwP o s true s = o := by unfold rwP; simp
  rw [e1, e2] at hi
  have hxd := hx.drain p
  have d1 := p'.c1
  have d2 := p'.c2
  have hr : rightI (s : Int) 0 d (o : Int) = true := by
    unfold rightI
    have : ((o : Int) != (s : Int)) = true := by
      have : (o : Int) ≠ s := by omega
      simpa using this
    rw [right_of p.s16, right_of p.o16, this, if_neg (by omega), decide_eq_true (show d ≤ 983040 by omega)]; rfl
  have := hxd.heard p (t' := true) (its := drainM y s) (hd' := hdC s o d) (hp' := hpC s o) (fun j hj => ?_) (fun x hx => by
    rw [hi] at hx
    rw [List.mem_singleton] at hx
    rw [hx]) (fun j _ h1 h => by unfold hdC hdB; rw [if_neg h1, if_neg h]) (by unfold hdC hdB; simp [so.symm]) (Or.inl rfl)
  · simpa using this
  · rw [hi]
    have ea : appTo [⟨(s : Int), 0, d, (o : Int)⟩] ⟨(drainF x o).k.tD o, (drainF x o).k.tP o⟩ 1 = ⟨setN ((drainF x o).k.tD o) s d, setN ((drainF x o).k.tP o) s o⟩ := by
      rw [appTo_one]
      unfold app1
      simp only [hr, if_true, Int.toNat_natCast]
    show (appTo _ _ 1).d j = _ ∧ (appTo _ _ 1).p j = _
    rw [ea]
    show setN _ s d j = hdC s o d j ∧ setN _ s (o : Int) j = hpC s o j
    unfold hdC hpC
    by_cases e : j = s
    · subst e; rw [setN_eq, setN_eq, if_pos rfl, if_pos rfl]; exact ⟨rfl, rfl⟩
    · rw [setN_ne _ _ e, setN_ne _ _ e, if_neg e, if_neg e]
      exact ⟨hxd.td j hj, hxd.tp j hj⟩
theorem nd_rest {x y : LP} (p : Pr s o c) (p' : Pr o s d) {hd hp : Nat → Int} (hx : Nd s o c true (hdC s o d) (hpC s o) 0 x) (hy : Nd o s d true hd hp 0 y) :
    Nd s o c true (hdC s o d) (hpC s o) 0 (heardF (drainF x o) o (drainM y s)) := by
  have so := p.so
  have hxd := hx.drain p
  rw [hy.none p']
  have := hxd.heard p (t' := true) (its := []) (hd' := hdC s o d) (hp' := hpC s o) (fun j hj => ⟨hxd.td j hj, hxd.tp j hj⟩) (fun x hx => by cases hx) (fun j _ h1 h => by unfold hdC hdB; rw [if_neg h1, if_neg h]) (by unfold hdC hdB; simp [so.symm]) (Or.inl rfl)
  simpa using this
end
theorem xy_rest {c d : Int} (p : Pr 0 1 c) (p' : Pr 1 0 d) : ∀ k, Nd 0 1 c true (hdC 0 1 d) (hpC 0 1) 0 (xyTo c d (k + 2)).1 ∧ Nd 1 0 d true (hdC 1 0 c) (hpC 1 0) 0 (xyTo c d (k + 2)).2
  | 0 => by
    have h1 := nd_start p
    have h2 := nd_start p'
    have a1 := nd_one p p' h1 h2
    have a2 := nd_one p' p h2 h1
    have b1 := nd_two p p' a1 a2
    have b2 := nd_two p' p a2 a1
    exact ⟨b1, b2⟩
  | k + 1 => by
    obtain ⟨h1, h2⟩ := xy_rest p p' k
    rw [xyTo_succ]
    exact ⟨nd_rest p p' h1 h2, nd_rest p' p h2 h1⟩
theorem nd_eqv {s o : Nat} {c d : Int} {x y : LP} {hd hp : Nat → Int} (so : s ≠ o) (hx : Nd s o c true (hdC s o d) (hpC s o) 0 x) (hy : Nd o s d true hd hp 0 y) : (treeD (x.k.tD o) (x.k.tP o)).eqv (treeD (cut y.r.d) (cut y.r.p)) = true := by
  rw [tree_eqv, List.all_eq_true]
  intro j hj
  have hj : j < 16 := by simpa using hj
  have q1 : cut y.r.d j = y.r.d j := by unfold cut fillTo; rw [if_pos hj]
  have q2 : cut y.r.p j = y.r.p j := by unfold cut fillTo; rw [if_pos hj]
  have r1 : hdC s o d j = rwD o s d true j := by
    unfold hdC hdB rwD
    by_cases e : j = s
    · subst e; simp [so]
    · simp [e]
  have r2 : hpC s o j = rwP o s true j := by
    unfold hpC rwP
    by_cases e : j = s <;> simp [e]
  rw [q1, q2, hx.td j hj, hx.tp j hj, hy.rd j hj, hy.rp j hj, r1, r2]
  simp
/-- Behind eight rounds. -/
structure Met (c : Int) (x y : LP) : Prop where
  sx : x.k.self = 0
  sy : y.k.self = 1
  dx : has (dueF x) 1 = false
  dy : has (dueF y) 0 = false
  ex : (treeD (x.k.tD 1) (x.k.tP 1)).eqv (treeD (cut y.r.d) (cut y.r.p)) = true
  ey : (treeD (y.k.tD 0) (y.k.tP 0)).eqv (treeD (cut x.r.d) (cut x.r.p)) = true
  ax : x.act = 0
  ay : y.act = 0
  r1 : x.r.d 1 = c
  ix : AllI x
  iy : AllI y
theorem allI_xy (c d : Int) : ∀ k, AllI (xyTo c d k).1 ∧ AllI (xyTo c d k).2
  | 0 => ⟨allI_up (allI_new _) _ _, allI_up (allI_new _) _ _⟩
  | k + 1 => by
    obtain ⟨h1, h2⟩ := allI_xy c d k
    rw [xyTo_succ]
    exact ⟨allI_heard (allI_drain h1 _) _ _, allI_heard (allI_drain h2 _) _ _⟩
theorem met {c d : Int} (c1 : 1 ≤ c) (c2 : c ≤ 65536) (d1 : 1 ≤ d) (d2 : d ≤ 65536) : Met c (xyTo c d 8).1 (xyTo c d 8).2 := by
  have p : Pr 0 1 c := ⟨by omega, by omega, by omega, c1, c2⟩
  have p' : Pr 1 0 d := ⟨by omega, by omega, by omega, d1, d2⟩
  obtain ⟨h1, h2⟩ := xy_rest p p' 6
  obtain ⟨i1, i2⟩ := allI_xy c d 8
  have u1 := h1.due p
  have u2 := h2.due p'
  exact ⟨h1.self, h2.self, u1, u2, nd_eqv (by decide) h1 h2, nd_eqv (by decide) h2 h1, h1.act, h2.act, by rw [h1.rd 1 (by omega)]; unfold rwD; simp, i1, i2⟩
end Go.Proofs.YtjceimcepogkaaaGreatDoor.Ev
