/- The document's table (settle), as the program's. -/
import Derived.Test.YtjceimcepogkaaaGreatDoorKa
namespace Go.Proofs.YtjceimcepogkaaaGreatDoor.Ev
open Go
attribute [local congr] ob_congr sq_congr cd_congr ite_congr1 iter_congr it1_congr jumps_congr
set_option maxRecDepth 100000
set_option linter.unusedSimpArgs false
set_option linter.unusedVariables false
theorem rempty_ev (k : Nat) (r : Int) : evF Tryz.prog env xt (k+2) 33 [.d (.s (.int .i64 (r)))] = some (.d (rowsD (putN farD r 0) farP farP)) := by
  rw [evF_eq Tryz.func33 (show Tryz.f33.body = some _ from rfl) rfl rfl rfl (by show 1 ≤ 18; decide)]
  simp (decide := true) only [Tryz.f33, rid, kl33_3, ↓sBp, sBq, List.all_cons, List.all_nil, List.map_cons, List.map_nil, D.shape, Sh.sub, Sh.size, List.getElem?_cons_zero, List.getElem?_cons_succ, Option.bind_some, Option.bind_none, Option.getD_some, Option.getD_none, V.keysIn, V.kill, V.has, decide_eq_true_eq, beq_iff_eq, bne_iff_ne, ne_eq, Bool.not_eq_true', Bool.and_true, Bool.and_self, Bool.true_and, if_true, if_false, reduceIte, Bool.false_eq_true, decide_true, decide_false, beq_self_eq_true, Bool.not_true, Bool.not_false, true_and, and_true, and_self, List.append_assoc, List.nil_append, List.cons_append, Int.toNat_natCast, ck, Int.cast_ofNat_Int, Int.reduceToNat, bne_self_eq_false, Bool.or_false, Bool.false_or, Bool.false_and, Bool.and_false, Bool.or_true, Bool.true_or]
  rw [iter_run (S := fun k => ⟨tab .junk [(0, .d (.s (.int .i64 (r)))), (2, .ptr 2 (shRs) [] (shRs)), (3, .ptr 3 (shRs) [] (shRs)), (5, .d (.s (.int .i64 (k))))], tab none [(2, some (.box (Z40))), (3, some (.box (rowsD (fillTo (fun _ => 4294967295) (fun _ => 0) k) (fillTo (fun _ => -1) (fun _ => 0) k) (fillTo (fun _ => -1) (fun _ => 0) k))))]⟩) (n := 16) (h0 := ?h0) (hn := lt_loopFuel (by decide)) (step := ?step)]
  case h0 => simp only [fillTo_zero]; rfl
  case step =>
    intro k hk
    have hk1 : (k : Int) < 16 := by omega
    have hk0 : (0 : Int) ≤ k := by omega
    have hkw := wrap_succ k (by omega)
    simp (decide := true) only [hk1, hk0, hkw, setN_row, fillTo_set (fun _ => (4294967295 : Int)), fillTo_set (fun _ => (-1 : Int)), Tryz.f33, rid, kl33_3, ↓sBp, sBq, List.all_cons, List.all_nil, List.map_cons, List.map_nil, D.shape, Sh.sub, Sh.size, List.getElem?_cons_zero, List.getElem?_cons_succ, Option.bind_some, Option.bind_none, Option.getD_some, Option.getD_none, V.keysIn, V.kill, V.has, decide_eq_true_eq, beq_iff_eq, bne_iff_ne, ne_eq, Bool.not_eq_true', Bool.and_true, Bool.and_self, Bool.true_and, if_true, if_false, reduceIte, Bool.false_eq_true, decide_true, decide_false, beq_self_eq_true, Bool.not_true, Bool.not_false, true_and, and_true, and_self, List.append_assoc, List.nil_append, List.cons_append, Int.toNat_natCast, ck, Int.cast_ofNat_Int, Int.reduceToNat, bne_self_eq_false, Bool.or_false, Bool.false_or, Bool.false_and, Bool.and_false, Bool.or_true, Bool.true_or]
  by_cases h : right r = true
  · have h2 := right_nn h
    simp (decide := true) only [h, h2, rright_ev, setN_row, setN_self, putN, Tryz.f33, rid, kl33_3, ↓sBp, sBq, List.all_cons, List.all_nil, List.map_cons, List.map_nil, D.shape, Sh.sub, Sh.size, List.getElem?_cons_zero, List.getElem?_cons_succ, Option.bind_some, Option.bind_none, Option.getD_some, Option.getD_none, V.keysIn, V.kill, V.has, decide_eq_true_eq, beq_iff_eq, bne_iff_ne, ne_eq, Bool.not_eq_true', Bool.and_true, Bool.and_self, Bool.true_and, if_true, if_false, reduceIte, Bool.false_eq_true, decide_true, decide_false, beq_self_eq_true, Bool.not_true, Bool.not_false, true_and, and_true, and_self, List.append_assoc, List.nil_append, List.cons_append, Int.toNat_natCast, ck, Int.cast_ofNat_Int, Int.reduceToNat, bne_self_eq_false, Bool.or_false, Bool.false_or, Bool.false_and, Bool.and_false, Bool.or_true, Bool.true_or]
  · simp (decide := true) only [h, rright_ev, putN, Tryz.f33, rid, kl33_3, ↓sBp, sBq, List.all_cons, List.all_nil, List.map_cons, List.map_nil, D.shape, Sh.sub, Sh.size, List.getElem?_cons_zero, List.getElem?_cons_succ, Option.bind_some, Option.bind_none, Option.getD_some, Option.getD_none, V.keysIn, V.kill, V.has, decide_eq_true_eq, beq_iff_eq, bne_iff_ne, ne_eq, Bool.not_eq_true', Bool.and_true, Bool.and_self, Bool.true_and, if_true, if_false, reduceIte, Bool.false_eq_true, decide_true, decide_false, beq_self_eq_true, Bool.not_true, Bool.not_false, true_and, and_true, and_self, List.append_assoc, List.nil_append, List.cons_append, Int.toNat_natCast, ck, Int.cast_ofNat_Int, Int.reduceToNat, bne_self_eq_false, Bool.or_false, Bool.false_or, Bool.false_and, Bool.and_false, Bool.or_true, Bool.true_or]
theorem rtree_ev (k : Nat) (d p n : Nat → Int) : evF Tryz.prog env xt (k+1) 40 [.d (rowsD d p n)] = some (.d (treeD (cut d) (cut p))) := by
  rw [evF_eq Tryz.func40 (show Tryz.f40.body = some _ from rfl) rfl rfl rfl (by show 1 ≤ 20; decide)]
  simp (decide := true) only [Tryz.f40, rid, kl40_3, ↓sBp, sBq, List.all_cons, List.all_nil, List.map_cons, List.map_nil, D.shape, Sh.sub, Sh.size, List.getElem?_cons_zero, List.getElem?_cons_succ, Option.bind_some, Option.bind_none, Option.getD_some, Option.getD_none, V.keysIn, V.kill, V.has, decide_eq_true_eq, beq_iff_eq, bne_iff_ne, ne_eq, Bool.not_eq_true', Bool.and_true, Bool.and_self, Bool.true_and, if_true, if_false, reduceIte, Bool.false_eq_true, decide_true, decide_false, beq_self_eq_true, Bool.not_true, Bool.not_false, true_and, and_true, and_self, List.append_assoc, List.nil_append, List.cons_append, Int.toNat_natCast, ck, Int.cast_ofNat_Int, Int.reduceToNat, bne_self_eq_false, Bool.or_false, Bool.false_or, Bool.false_and, Bool.and_false, Bool.or_true, Bool.true_or]
  rw [iter_run (S := fun k => ⟨tab .junk [(2, .ptr 2 (shT) [] (shT)), (3, .ptr 3 (shT) [] (shT)), (6, .d (rowsD d p n)), (7, .d (.s (.int .i64 (k))))], tab none [(2, some (.box (Z33))), (3, some (.box (treeD (fillTo d (fun _ => 0) k) (fillTo p (fun _ => 0) k))))]⟩) (n := 16) (h0 := ?h0) (hn := lt_loopFuel (by decide)) (step := ?step)]
  case h0 => simp only [fillTo_zero]; rfl
  case step =>
    intro k hk
    have hk1 : (k : Int) < 16 := by omega
    have hk0 : (0 : Int) ≤ k := by omega
    have hkw := wrap_succ k (by omega)
    simp (decide := true) only [hk1, hk0, hkw, setN_ent, fillTo_set d, fillTo_set p, Tryz.f40, rid, kl40_3, ↓sBp, sBq, List.all_cons, List.all_nil, List.map_cons, List.map_nil, D.shape, Sh.sub, Sh.size, List.getElem?_cons_zero, List.getElem?_cons_succ, Option.bind_some, Option.bind_none, Option.getD_some, Option.getD_none, V.keysIn, V.kill, V.has, decide_eq_true_eq, beq_iff_eq, bne_iff_ne, ne_eq, Bool.not_eq_true', Bool.and_true, Bool.and_self, Bool.true_and, if_true, if_false, reduceIte, Bool.false_eq_true, decide_true, decide_false, beq_self_eq_true, Bool.not_true, Bool.not_false, true_and, and_true, and_self, List.append_assoc, List.nil_append, List.cons_append, Int.toNat_natCast, ck, Int.cast_ofNat_Int, Int.reduceToNat, bne_self_eq_false, Bool.or_false, Bool.false_or, Bool.false_and, Bool.and_false, Bool.or_true, Bool.true_or]
  simp (decide := true) only [cut, Tryz.f40, rid, kl40_3, ↓sBp, sBq, List.all_cons, List.all_nil, List.map_cons, List.map_nil, D.shape, Sh.sub, Sh.size, List.getElem?_cons_zero, List.getElem?_cons_succ, Option.bind_some, Option.bind_none, Option.getD_some, Option.getD_none, V.keysIn, V.kill, V.has, decide_eq_true_eq, beq_iff_eq, bne_iff_ne, ne_eq, Bool.not_eq_true', Bool.and_true, Bool.and_self, Bool.true_and, if_true, if_false, reduceIte, Bool.false_eq_true, decide_true, decide_false, beq_self_eq_true, Bool.not_true, Bool.not_false, true_and, and_true, and_self, List.append_assoc, List.nil_append, List.cons_append, Int.toNat_natCast, ck, Int.cast_ofNat_Int, Int.reduceToNat, bne_self_eq_false, Bool.or_false, Bool.false_or, Bool.false_and, Bool.and_false, Bool.or_true, Bool.true_or]
set_option maxHeartbeats 8000000 in
theorem rallowed_ev (K : Nat) (self up : Int) (c : Nat → Int) (tD tP : Nat → Nat → Int) (rD rP rN : Nat → Int) (n j : Int) :
    evF Tryz.prog env xt (K+4) 125 [.d (knD self up c tD tP), .d (rowsD rD rP rN), .d (.s (.int .i64 (n))), .d (.s (.int .i64 (j)))] =
      some (.tcons (.d (rowD (alRd ⟨self, up, c, tD, tP⟩ n j) (alRp ⟨self, up, c, tD, tP⟩ n j) (alRn ⟨self, up, c, tD, tP⟩ n j))) (.tcons (.d (.s (.bool (alOk ⟨self, up, c, tD, tP⟩ ⟨rD, rP, rN⟩ n j)))) .tnil)) := by
  rw [evF_eq Tryz.func125 (show Tryz.f125.body = some _ from rfl) rfl rfl rfl (by show 4 ≤ 131; decide)]
  rcases Bool.eq_false_or_eq_true (right j) with h1 | h1
  case inr => simp (decide := true) only [rright_ev, h1, alRd, alRp, alRn, alOk, alHas, alPre, Tryz.f125, rid, dp125_10, dp125_14, ↓sBp, sBq, List.all_cons, List.all_nil, List.map_cons, List.map_nil, D.shape, Sh.sub, Sh.size, List.getElem?_cons_zero, List.getElem?_cons_succ, Option.bind_some, Option.bind_none, Option.getD_some, Option.getD_none, V.keysIn, V.kill, V.has, decide_eq_true_eq, beq_iff_eq, bne_iff_ne, ne_eq, Bool.not_eq_true', Bool.and_true, Bool.and_self, Bool.true_and, if_true, if_false, reduceIte, Bool.false_eq_true, decide_true, decide_false, beq_self_eq_true, Bool.not_true, Bool.not_false, true_and, and_true, and_self, List.append_assoc, List.nil_append, List.cons_append, Int.toNat_natCast, ck, Int.cast_ofNat_Int, Int.reduceToNat, bne_self_eq_false, Bool.or_false, Bool.false_or, Bool.false_and, Bool.and_false, Bool.or_true, Bool.true_or]
  rcases Bool.eq_false_or_eq_true (j != self) with h3 | h3
  case inr =>
    have h3' : (j == self) = true := by simpa [bne] using h3
    rcases Bool.eq_false_or_eq_true (right n) with h2 | h2
    · simp (decide := true) only [rright_ev, h1, h2, h3, h3', alRd, alRp, alRn, alOk, alHas, alPre, Tryz.f125, rid, dp125_10, dp125_14, ↓sBp, sBq, List.all_cons, List.all_nil, List.map_cons, List.map_nil, D.shape, Sh.sub, Sh.size, List.getElem?_cons_zero, List.getElem?_cons_succ, Option.bind_some, Option.bind_none, Option.getD_some, Option.getD_none, V.keysIn, V.kill, V.has, decide_eq_true_eq, beq_iff_eq, bne_iff_ne, ne_eq, Bool.not_eq_true', Bool.and_true, Bool.and_self, Bool.true_and, if_true, if_false, reduceIte, Bool.false_eq_true, decide_true, decide_false, beq_self_eq_true, Bool.not_true, Bool.not_false, true_and, and_true, and_self, List.append_assoc, List.nil_append, List.cons_append, Int.toNat_natCast, ck, Int.cast_ofNat_Int, Int.reduceToNat, bne_self_eq_false, Bool.or_false, Bool.false_or, Bool.false_and, Bool.and_false, Bool.or_true, Bool.true_or]
    · simp (decide := true) only [rright_ev, h1, h2, h3, h3', alRd, alRp, alRn, alOk, alHas, alPre, Tryz.f125, rid, dp125_10, dp125_14, ↓sBp, sBq, List.all_cons, List.all_nil, List.map_cons, List.map_nil, D.shape, Sh.sub, Sh.size, List.getElem?_cons_zero, List.getElem?_cons_succ, Option.bind_some, Option.bind_none, Option.getD_some, Option.getD_none, V.keysIn, V.kill, V.has, decide_eq_true_eq, beq_iff_eq, bne_iff_ne, ne_eq, Bool.not_eq_true', Bool.and_true, Bool.and_self, Bool.true_and, if_true, if_false, reduceIte, Bool.false_eq_true, decide_true, decide_false, beq_self_eq_true, Bool.not_true, Bool.not_false, true_and, and_true, and_self, List.append_assoc, List.nil_append, List.cons_append, Int.toNat_natCast, ck, Int.cast_ofNat_Int, Int.reduceToNat, bne_self_eq_false, Bool.or_false, Bool.false_or, Bool.false_and, Bool.and_false, Bool.or_true, Bool.true_or]
  have h3' : (j == self) = false := by simpa [bne] using h3
  rcases Bool.eq_false_or_eq_true (right n) with h2 | h2
  case inr => simp (decide := true) only [rright_ev, h1, h2, h3, h3', alRd, alRp, alRn, alOk, alHas, alPre, Tryz.f125, rid, dp125_10, dp125_14, ↓sBp, sBq, List.all_cons, List.all_nil, List.map_cons, List.map_nil, D.shape, Sh.sub, Sh.size, List.getElem?_cons_zero, List.getElem?_cons_succ, Option.bind_some, Option.bind_none, Option.getD_some, Option.getD_none, V.keysIn, V.kill, V.has, decide_eq_true_eq, beq_iff_eq, bne_iff_ne, ne_eq, Bool.not_eq_true', Bool.and_true, Bool.and_self, Bool.true_and, if_true, if_false, reduceIte, Bool.false_eq_true, decide_true, decide_false, beq_self_eq_true, Bool.not_true, Bool.not_false, true_and, and_true, and_self, List.append_assoc, List.nil_append, List.cons_append, Int.toNat_natCast, ck, Int.cast_ofNat_Int, Int.reduceToNat, bne_self_eq_false, Bool.or_false, Bool.false_or, Bool.false_and, Bool.and_false, Bool.or_true, Bool.true_or]
  have h22 := right_nn h2
  rcases Bool.eq_false_or_eq_true (n != self) with h4 | h4
  case inr =>
    have h4' : (n == self) = true := by simpa [bne] using h4
    simp (decide := true) only [rright_ev, h1, h2, h3, h3', h4, h4', alRd, alRp, alRn, alOk, alHas, alPre, Tryz.f125, rid, dp125_10, dp125_14, ↓sBp, sBq, List.all_cons, List.all_nil, List.map_cons, List.map_nil, D.shape, Sh.sub, Sh.size, List.getElem?_cons_zero, List.getElem?_cons_succ, Option.bind_some, Option.bind_none, Option.getD_some, Option.getD_none, V.keysIn, V.kill, V.has, decide_eq_true_eq, beq_iff_eq, bne_iff_ne, ne_eq, Bool.not_eq_true', Bool.and_true, Bool.and_self, Bool.true_and, if_true, if_false, reduceIte, Bool.false_eq_true, decide_true, decide_false, beq_self_eq_true, Bool.not_true, Bool.not_false, true_and, and_true, and_self, List.append_assoc, List.nil_append, List.cons_append, Int.toNat_natCast, ck, Int.cast_ofNat_Int, Int.reduceToNat, bne_self_eq_false, Bool.or_false, Bool.false_or, Bool.false_and, Bool.and_false, Bool.or_true, Bool.true_or]
  have h4' : (n == self) = false := by simpa [bne] using h4
  by_cases h5 : ofF up c n < 1
  · have hpre : alPre ⟨self, up, c, tD, tP⟩ n j = false := by
      unfold alPre
      show (right j && (right n && ((j != self) && ((n != self) && ((decide (1 ≤ ofF up c n) && decide (ofF up c n ≤ 65536)) && ((gd (tD n.toNat) j != 4294967295) && decide (gd (tD n.toNat) j ≤ 983040))))))) = false
      rw [decide_eq_false (show ¬ 1 ≤ ofF up c n by omega)]; simp
    simp (decide := true) only [rright_ev, h1, h2, h22, h3, h3', h4, h4', rof_ev, rget_ev, h5, hpre, alRd, alRp, alRn, alOk, alHas, Tryz.f125, rid, dp125_10, dp125_14, ↓sBp, sBq, List.all_cons, List.all_nil, List.map_cons, List.map_nil, D.shape, Sh.sub, Sh.size, List.getElem?_cons_zero, List.getElem?_cons_succ, Option.bind_some, Option.bind_none, Option.getD_some, Option.getD_none, V.keysIn, V.kill, V.has, decide_eq_true_eq, beq_iff_eq, bne_iff_ne, ne_eq, Bool.not_eq_true', Bool.and_true, Bool.and_self, Bool.true_and, if_true, if_false, reduceIte, Bool.false_eq_true, decide_true, decide_false, beq_self_eq_true, Bool.not_true, Bool.not_false, true_and, and_true, and_self, List.append_assoc, List.nil_append, List.cons_append, Int.toNat_natCast, ck, Int.cast_ofNat_Int, Int.reduceToNat, bne_self_eq_false, Bool.or_false, Bool.false_or, Bool.false_and, Bool.and_false, Bool.or_true, Bool.true_or]
  by_cases h5b : 65536 < ofF up c n
  · have hpre : alPre ⟨self, up, c, tD, tP⟩ n j = false := by
      unfold alPre
      show (right j && (right n && ((j != self) && ((n != self) && ((decide (1 ≤ ofF up c n) && decide (ofF up c n ≤ 65536)) && ((gd (tD n.toNat) j != 4294967295) && decide (gd (tD n.toNat) j ≤ 983040))))))) = false
      rw [decide_eq_false (show ¬ ofF up c n ≤ 65536 by omega)]; simp
    simp (decide := true) only [rright_ev, h1, h2, h22, h3, h3', h4, h4', rof_ev, rget_ev, h5, h5b, hpre, alRd, alRp, alRn, alOk, alHas, Tryz.f125, rid, dp125_10, dp125_14, ↓sBp, sBq, List.all_cons, List.all_nil, List.map_cons, List.map_nil, D.shape, Sh.sub, Sh.size, List.getElem?_cons_zero, List.getElem?_cons_succ, Option.bind_some, Option.bind_none, Option.getD_some, Option.getD_none, V.keysIn, V.kill, V.has, decide_eq_true_eq, beq_iff_eq, bne_iff_ne, ne_eq, Bool.not_eq_true', Bool.and_true, Bool.and_self, Bool.true_and, if_true, if_false, reduceIte, Bool.false_eq_true, decide_true, decide_false, beq_self_eq_true, Bool.not_true, Bool.not_false, true_and, and_true, and_self, List.append_assoc, List.nil_append, List.cons_append, Int.toNat_natCast, ck, Int.cast_ofNat_Int, Int.reduceToNat, bne_self_eq_false, Bool.or_false, Bool.false_or, Bool.false_and, Bool.and_false, Bool.or_true, Bool.true_or]
  have h51 : 1 ≤ ofF up c n := by omega
  have h52 : ofF up c n ≤ 65536 := by omega
  rcases Bool.eq_false_or_eq_true (gd (tD n.toNat) j == 4294967295) with h6 | h6
  · have hpre : alPre ⟨self, up, c, tD, tP⟩ n j = false := by
      unfold alPre
      show (right j && (right n && ((j != self) && ((n != self) && ((decide (1 ≤ ofF up c n) && decide (ofF up c n ≤ 65536)) && ((gd (tD n.toNat) j != 4294967295) && decide (gd (tD n.toNat) j ≤ 983040))))))) = false
      unfold bne
      rw [h6]; simp
    simp (decide := true) only [rright_ev, h1, h2, h22, h3, h3', h4, h4', rof_ev, rget_ev, h5, h5b, h6, hpre, alRd, alRp, alRn, alOk, alHas, Tryz.f125, rid, dp125_10, dp125_14, ↓sBp, sBq, List.all_cons, List.all_nil, List.map_cons, List.map_nil, D.shape, Sh.sub, Sh.size, List.getElem?_cons_zero, List.getElem?_cons_succ, Option.bind_some, Option.bind_none, Option.getD_some, Option.getD_none, V.keysIn, V.kill, V.has, decide_eq_true_eq, beq_iff_eq, bne_iff_ne, ne_eq, Bool.not_eq_true', Bool.and_true, Bool.and_self, Bool.true_and, if_true, if_false, reduceIte, Bool.false_eq_true, decide_true, decide_false, beq_self_eq_true, Bool.not_true, Bool.not_false, true_and, and_true, and_self, List.append_assoc, List.nil_append, List.cons_append, Int.toNat_natCast, ck, Int.cast_ofNat_Int, Int.reduceToNat, bne_self_eq_false, Bool.or_false, Bool.false_or, Bool.false_and, Bool.and_false, Bool.or_true, Bool.true_or]
  by_cases h7 : gd (tD n.toNat) j ≤ 983040
  case neg =>
    have hpre : alPre ⟨self, up, c, tD, tP⟩ n j = false := by
      unfold alPre
      show (right j && (right n && ((j != self) && ((n != self) && ((decide (1 ≤ ofF up c n) && decide (ofF up c n ≤ 65536)) && ((gd (tD n.toNat) j != 4294967295) && decide (gd (tD n.toNat) j ≤ 983040))))))) = false
      rw [decide_eq_false h7]; simp
    simp (decide := true) only [rright_ev, h1, h2, h22, h3, h3', h4, h4', rof_ev, rget_ev, h5, h5b, h6, rshort_ev, h7, hpre, alRd, alRp, alRn, alOk, alHas, Tryz.f125, rid, dp125_10, dp125_14, ↓sBp, sBq, List.all_cons, List.all_nil, List.map_cons, List.map_nil, D.shape, Sh.sub, Sh.size, List.getElem?_cons_zero, List.getElem?_cons_succ, Option.bind_some, Option.bind_none, Option.getD_some, Option.getD_none, V.keysIn, V.kill, V.has, decide_eq_true_eq, beq_iff_eq, bne_iff_ne, ne_eq, Bool.not_eq_true', Bool.and_true, Bool.and_self, Bool.true_and, if_true, if_false, reduceIte, Bool.false_eq_true, decide_true, decide_false, beq_self_eq_true, Bool.not_true, Bool.not_false, true_and, and_true, and_self, List.append_assoc, List.nil_append, List.cons_append, Int.toNat_natCast, ck, Int.cast_ofNat_Int, Int.reduceToNat, bne_self_eq_false, Bool.or_false, Bool.false_or, Bool.false_and, Bool.and_false, Bool.or_true, Bool.true_or]
  have hpre : alPre ⟨self, up, c, tD, tP⟩ n j = true := by
    unfold alPre
    show (right j && (right n && ((j != self) && ((n != self) && ((decide (1 ≤ ofF up c n) && decide (ofF up c n ≤ 65536)) && ((gd (tD n.toNat) j != 4294967295) && decide (gd (tD n.toNat) j ≤ 983040))))))) = true
    unfold bne
    rw [h1, h2, h3', h4', decide_eq_true h51, decide_eq_true h52, h6, decide_eq_true h7]; rfl
  have hD : IntKind.u32.wrap (gd (tD n.toNat) j + ofF up c n) = alD ⟨self, up, c, tD, tP⟩ n j := rfl
  have hp : gp (tP n.toNat) j = tpr ⟨self, up, c, tD, tP⟩ n j := rfl
  rcases Bool.eq_false_or_eq_true (j == n) with h8 | h8
  case inl =>
    have ht : (tol ⟨self, up, c, tD, tP⟩ n j == 0) = (gd (tD n.toNat) j == 0) := rfl
    simp (decide := true) only [rright_ev, h1, h2, h22, h3, h3', h4, h4', rof_ev, rget_ev, h5, h5b, h6, rshort_ev, h7, hD, h8, hpre, ht, alRd, alRp, alRn, alOk, alHas, Tryz.f125, rid, dp125_10, dp125_14, ↓sBp, sBq, List.all_cons, List.all_nil, List.map_cons, List.map_nil, D.shape, Sh.sub, Sh.size, List.getElem?_cons_zero, List.getElem?_cons_succ, Option.bind_some, Option.bind_none, Option.getD_some, Option.getD_none, V.keysIn, V.kill, V.has, decide_eq_true_eq, beq_iff_eq, bne_iff_ne, ne_eq, Bool.not_eq_true', Bool.and_true, Bool.and_self, Bool.true_and, if_true, if_false, reduceIte, Bool.false_eq_true, decide_true, decide_false, beq_self_eq_true, Bool.not_true, Bool.not_false, true_and, and_true, and_self, List.append_assoc, List.nil_append, List.cons_append, Int.toNat_natCast, ck, Int.cast_ofNat_Int, Int.reduceToNat, bne_self_eq_false, Bool.or_false, Bool.false_or, Bool.false_and, Bool.and_false, Bool.or_true, Bool.true_or]
  have hw : wV (tD n.toNat) (tP n.toNat) j = alW ⟨self, up, c, tD, tP⟩ n j := rfl
  have hm : alMid ⟨self, up, c, tD, tP⟩ n j = (wOk (tD n.toNat) (tP n.toNat) j && (decide (alW ⟨self, up, c, tD, tP⟩ n j ≤ 65536) && ((tpr ⟨self, up, c, tD, tP⟩ n j != self) && decide (alD ⟨self, up, c, tD, tP⟩ n j ≤ 983040)))) := rfl
  rcases Bool.eq_false_or_eq_true (wOk (tD n.toNat) (tP n.toNat) j) with h9 | h9
  case inr =>
    rw [h9] at hm
    simp (decide := true) only [rright_ev, h1, h2, h22, h3, h3', h4, h4', rof_ev, rget_ev, h5, h5b, h6, rshort_ev, h7, hD, hp, h8, hpre, rweight_ev, wR, h9, hm, alRd, alRp, alRn, alOk, alHas, Tryz.f125, rid, dp125_10, dp125_14, ↓sBp, sBq, List.all_cons, List.all_nil, List.map_cons, List.map_nil, D.shape, Sh.sub, Sh.size, List.getElem?_cons_zero, List.getElem?_cons_succ, Option.bind_some, Option.bind_none, Option.getD_some, Option.getD_none, V.keysIn, V.kill, V.has, decide_eq_true_eq, beq_iff_eq, bne_iff_ne, ne_eq, Bool.not_eq_true', Bool.and_true, Bool.and_self, Bool.true_and, if_true, if_false, reduceIte, Bool.false_eq_true, decide_true, decide_false, beq_self_eq_true, Bool.not_true, Bool.not_false, true_and, and_true, and_self, List.append_assoc, List.nil_append, List.cons_append, Int.toNat_natCast, ck, Int.cast_ofNat_Int, Int.reduceToNat, bne_self_eq_false, Bool.or_false, Bool.false_or, Bool.false_and, Bool.and_false, Bool.or_true, Bool.true_or]
  by_cases h10 : alW ⟨self, up, c, tD, tP⟩ n j ≤ 65536
  case neg =>
    have h10' : decide (alW ⟨self, up, c, tD, tP⟩ n j ≤ 65536) = false := decide_eq_false h10
    have h10'' : 65536 < alW ⟨self, up, c, tD, tP⟩ n j := by omega
    rw [h9, h10'] at hm
    simp (decide := true) only [rright_ev, h1, h2, h22, h3, h3', h4, h4', rof_ev, rget_ev, h5, h5b, h6, rshort_ev, h7, hD, hp, h8, hpre, rweight_ev, wR, hw, h9, h10, h10'', hm, alRd, alRp, alRn, alOk, alHas, Tryz.f125, rid, dp125_10, dp125_14, ↓sBp, sBq, List.all_cons, List.all_nil, List.map_cons, List.map_nil, D.shape, Sh.sub, Sh.size, List.getElem?_cons_zero, List.getElem?_cons_succ, Option.bind_some, Option.bind_none, Option.getD_some, Option.getD_none, V.keysIn, V.kill, V.has, decide_eq_true_eq, beq_iff_eq, bne_iff_ne, ne_eq, Bool.not_eq_true', Bool.and_true, Bool.and_self, Bool.true_and, if_true, if_false, reduceIte, Bool.false_eq_true, decide_true, decide_false, beq_self_eq_true, Bool.not_true, Bool.not_false, true_and, and_true, and_self, List.append_assoc, List.nil_append, List.cons_append, Int.toNat_natCast, ck, Int.cast_ofNat_Int, Int.reduceToNat, bne_self_eq_false, Bool.or_false, Bool.false_or, Bool.false_and, Bool.and_false, Bool.or_true, Bool.true_or]
  have h10' : decide (alW ⟨self, up, c, tD, tP⟩ n j ≤ 65536) = true := decide_eq_true h10
  have h10'' : ¬ 65536 < alW ⟨self, up, c, tD, tP⟩ n j := by omega
  rcases Bool.eq_false_or_eq_true (tpr ⟨self, up, c, tD, tP⟩ n j != self) with h11 | h11
  case inr =>
    have h11' : (tpr ⟨self, up, c, tD, tP⟩ n j == self) = true := by simpa [bne] using h11
    rw [h9, h10', h11] at hm
    simp (decide := true) only [rright_ev, h1, h2, h22, h3, h3', h4, h4', rof_ev, rget_ev, h5, h5b, h6, rshort_ev, h7, hD, hp, h8, hpre, rweight_ev, wR, hw, h9, h10, h10'', h11, h11', hm, alRd, alRp, alRn, alOk, alHas, Tryz.f125, rid, dp125_10, dp125_14, ↓sBp, sBq, List.all_cons, List.all_nil, List.map_cons, List.map_nil, D.shape, Sh.sub, Sh.size, List.getElem?_cons_zero, List.getElem?_cons_succ, Option.bind_some, Option.bind_none, Option.getD_some, Option.getD_none, V.keysIn, V.kill, V.has, decide_eq_true_eq, beq_iff_eq, bne_iff_ne, ne_eq, Bool.not_eq_true', Bool.and_true, Bool.and_self, Bool.true_and, if_true, if_false, reduceIte, Bool.false_eq_true, decide_true, decide_false, beq_self_eq_true, Bool.not_true, Bool.not_false, true_and, and_true, and_self, List.append_assoc, List.nil_append, List.cons_append, Int.toNat_natCast, ck, Int.cast_ofNat_Int, Int.reduceToNat, bne_self_eq_false, Bool.or_false, Bool.false_or, Bool.false_and, Bool.and_false, Bool.or_true, Bool.true_or]
  have h11' : (tpr ⟨self, up, c, tD, tP⟩ n j == self) = false := by simpa [bne] using h11
  by_cases h12 : alD ⟨self, up, c, tD, tP⟩ n j ≤ 983040
  case neg =>
    have h12' : decide (alD ⟨self, up, c, tD, tP⟩ n j ≤ 983040) = false := decide_eq_false h12
    rw [h9, h10', h11, h12'] at hm
    simp (decide := true) only [rright_ev, h1, h2, h22, h3, h3', h4, h4', rof_ev, rget_ev, h5, h5b, h6, rshort_ev, h7, hD, hp, h8, hpre, rweight_ev, wR, hw, h9, h10, h10'', h11, h11', h12, hm, alRd, alRp, alRn, alOk, alHas, Tryz.f125, rid, dp125_10, dp125_14, ↓sBp, sBq, List.all_cons, List.all_nil, List.map_cons, List.map_nil, D.shape, Sh.sub, Sh.size, List.getElem?_cons_zero, List.getElem?_cons_succ, Option.bind_some, Option.bind_none, Option.getD_some, Option.getD_none, V.keysIn, V.kill, V.has, decide_eq_true_eq, beq_iff_eq, bne_iff_ne, ne_eq, Bool.not_eq_true', Bool.and_true, Bool.and_self, Bool.true_and, if_true, if_false, reduceIte, Bool.false_eq_true, decide_true, decide_false, beq_self_eq_true, Bool.not_true, Bool.not_false, true_and, and_true, and_self, List.append_assoc, List.nil_append, List.cons_append, Int.toNat_natCast, ck, Int.cast_ofNat_Int, Int.reduceToNat, bne_self_eq_false, Bool.or_false, Bool.false_or, Bool.false_and, Bool.and_false, Bool.or_true, Bool.true_or]
  have h12' : decide (alD ⟨self, up, c, tD, tP⟩ n j ≤ 983040) = true := decide_eq_true h12
  rw [h9, h10', h11, h12'] at hm
  have hr : right (tpr ⟨self, up, c, tD, tP⟩ n j) = true := by
    unfold wOk at h9
    simp only [Bool.and_eq_true] at h9
    exact h9.2.1
  have hr2 := right_nn hr
  have he : alEnd ⟨self, up, c, tD, tP⟩ ⟨rD, rP, rN⟩ n j = ((rN (tpr ⟨self, up, c, tD, tP⟩ n j).toNat == n) && (rD (tpr ⟨self, up, c, tD, tP⟩ n j).toNat == IntKind.u32.wrap (alD ⟨self, up, c, tD, tP⟩ n j - alW ⟨self, up, c, tD, tP⟩ n j))) := rfl
  rcases Bool.eq_false_or_eq_true (rN (tpr ⟨self, up, c, tD, tP⟩ n j).toNat == n) with h13 | h13
  · simp (decide := true) only [rright_ev, h1, h2, h22, h3, h3', h4, h4', rof_ev, rget_ev, h5, h5b, h6, rshort_ev, h7, hD, hp, h8, hpre, rweight_ev, wR, hw, h9, h10, h10'', h11, h11', h12, hm, hr, hr2, he, h13, alRd, alRp, alRn, alOk, alHas, Tryz.f125, rid, dp125_10, dp125_14, ↓sBp, sBq, List.all_cons, List.all_nil, List.map_cons, List.map_nil, D.shape, Sh.sub, Sh.size, List.getElem?_cons_zero, List.getElem?_cons_succ, Option.bind_some, Option.bind_none, Option.getD_some, Option.getD_none, V.keysIn, V.kill, V.has, decide_eq_true_eq, beq_iff_eq, bne_iff_ne, ne_eq, Bool.not_eq_true', Bool.and_true, Bool.and_self, Bool.true_and, if_true, if_false, reduceIte, Bool.false_eq_true, decide_true, decide_false, beq_self_eq_true, Bool.not_true, Bool.not_false, true_and, and_true, and_self, List.append_assoc, List.nil_append, List.cons_append, Int.toNat_natCast, ck, Int.cast_ofNat_Int, Int.reduceToNat, bne_self_eq_false, Bool.or_false, Bool.false_or, Bool.false_and, Bool.and_false, Bool.or_true, Bool.true_or]
  · simp (decide := true) only [rright_ev, h1, h2, h22, h3, h3', h4, h4', rof_ev, rget_ev, h5, h5b, h6, rshort_ev, h7, hD, hp, h8, hpre, rweight_ev, wR, hw, h9, h10, h10'', h11, h11', h12, hm, hr, hr2, he, h13, alRd, alRp, alRn, alOk, alHas, Tryz.f125, rid, dp125_10, dp125_14, ↓sBp, sBq, List.all_cons, List.all_nil, List.map_cons, List.map_nil, D.shape, Sh.sub, Sh.size, List.getElem?_cons_zero, List.getElem?_cons_succ, Option.bind_some, Option.bind_none, Option.getD_some, Option.getD_none, V.keysIn, V.kill, V.has, decide_eq_true_eq, beq_iff_eq, bne_iff_ne, ne_eq, Bool.not_eq_true', Bool.and_true, Bool.and_self, Bool.true_and, if_true, if_false, reduceIte, Bool.false_eq_true, decide_true, decide_false, beq_self_eq_true, Bool.not_true, Bool.not_false, true_and, and_true, and_self, List.append_assoc, List.nil_append, List.cons_append, Int.toNat_natCast, ck, Int.cast_ofNat_Int, Int.reduceToNat, bne_self_eq_false, Bool.or_false, Bool.false_or, Bool.false_and, Bool.and_false, Bool.or_true, Bool.true_or]
/- The table. -/
theorem alRd_lt {k : Kn} {r : Rw} {n j : Int} (h : alOk k r n j = true) : alRd k n j < 4294967295 := by
  have hh := h
  unfold alOk at h
  rw [Bool.and_eq_true] at h
  obtain ⟨h1, h2⟩ := h
  have h1' := h1
  unfold alPre at h1'
  simp only [Bool.and_eq_true, decide_eq_true_eq, bne_iff_ne, ne_eq] at h1'
  obtain ⟨_, _, _, _, ⟨c1, c2⟩, _, _⟩ := h1'
  unfold alRd
  split
  · by_cases e : (j == n) = true
    · rw [if_pos e] at h2
      have h2 : tol k n j = 0 := by simpa using h2
      unfold alD
      rw [h2, Int.zero_add, IntWalk.u32_in _ (by omega)]
      omega
    · rw [if_neg e, Bool.and_eq_true] at h2
      have h3 := h2.1
      unfold alMid at h3
      simp only [Bool.and_eq_true, decide_eq_true_eq] at h3
      have := h3.2.2.2
      omega
  · omega
def SI (s : Bst) : Prop := (s.at' = -1 ∧ s.a = 4294967295 ∧ s.b = -1 ∧ s.c = -1) ∨ (0 ≤ s.at' ∧ s.at' < 16 ∧ s.a < 4294967295)
theorem SI_J {k : Kn} {r : Rw} {skip n : Int} {j : Nat} (hj : j < 16) {s : Bst} (hs : SI s) : SI (nearJ k r skip n j s) := by
  unfold nearJ
  split
  · rename_i h
    simp only [Bool.and_eq_true] at h
    have hlt := alRd_lt h.2.2.1
    refine Or.inr ⟨?_, ?_, hlt⟩
    · show (0 : Int) ≤ (j : Int); omega
    · show (j : Int) < 16; omega
  · exact hs
theorem SI_N {k : Kn} {r : Rw} {skip n : Int} {s : Bst} (hs : SI s) : ∀ j, j ≤ 16 → SI (nearN k r skip n s j)
  | 0, _ => hs
  | j + 1, hj => SI_J (by omega) (SI_N hs j (by omega))
theorem SI_to (k : Kn) (r : Rw) (skip : Int) : ∀ i, SI (nearTo k r skip i)
  | 0 => Or.inl ⟨rfl, rfl, rfl, rfl⟩
  | i + 1 => SI_N (SI_to k r skip i) 16 (Nat.le_refl _)
def RI (r : Rw) : Prop := ∀ j, j < 16 → r.d j = 4294967295 → r.p j = -1 ∧ r.n j = -1
theorem RI_empty (self : Int) : RI (emptyR self) := fun j hj _ => by
  have e : farP j = -1 := by unfold farP fillTo; rw [if_pos hj]
  exact ⟨e, e⟩
theorem RI_set {k : Kn} {skip : Int} {r : Rw} (h : RI r) : RI (setStep k skip r) := by
  unfold setStep
  split
  · exact h
  · rename_i hz
    rcases SI_to k r skip (listTo k.up 16).length with ⟨_, q2, q3, q4⟩ | ⟨q1, q2, q3⟩
    · refine absurd ?_ hz
      show rowNone (near k r skip).a (near k r skip).b (near k r skip).c = true
      unfold near
      rw [q2, q3, q4]; rfl
    · intro j hj hd
      have hd : setN r.d (near k r skip).at'.toNat (near k r skip).a j = 4294967295 := hd
      by_cases e : j = (near k r skip).at'.toNat
      · subst e
        rw [setN_eq] at hd
        have q3 : (near k r skip).a < 4294967295 := q3
        omega
      · rw [setN_ne _ _ e] at hd
        show setN r.p _ _ j = -1 ∧ setN r.n _ _ j = -1
        rw [setN_ne _ _ e, setN_ne _ _ e]
        exact h j hj hd
theorem RI_to (k : Kn) (skip : Int) : ∀ t, RI (setTo k skip t)
  | 0 => RI_empty _
  | t + 1 => RI_set (RI_to k skip t)
theorem rowNone_RI {r : Rw} (h : RI r) {j : Nat} (hj : j < 16) : rowNone (r.d j) (r.p j) (r.n j) = (r.d j == 4294967295) := by
  unfold rowNone
  rcases Bool.eq_false_or_eq_true (r.d j == 4294967295) with e | e
  · obtain ⟨q1, q2⟩ := h j hj (by simpa using e)
    rw [e, q1, q2]; rfl
  · rw [e]; rfl
theorem near_RI {k : Kn} {skip : Int} {r : Rw} : rowNone (near k r skip).a (near k r skip).b (near k r skip).c = decide ((near k r skip).at' < 0) := by
  rcases SI_to k r skip (listTo k.up 16).length with ⟨q1, q2, q3, q4⟩ | ⟨q1, q2, q3⟩
  · unfold near
    rw [q1, q2, q3, q4]; rfl
  · have q1 : 0 ≤ (near k r skip).at' := q1
    have q3 : (near k r skip).a < 4294967295 := q3
    unfold rowNone
    rw [show ((near k r skip).a == 4294967295) = false by simp; omega, decide_eq_false (by omega)]; rfl
/-- The document's best row: none is all zero. -/
def bstA (s : Bst) : Int := if s.at' < 0 then 0 else s.a
def bstB (s : Bst) : Int := if s.at' < 0 then 0 else s.b
def bstC (s : Bst) : Int := if s.at' < 0 then 0 else s.c
theorem nearJ_eq {k : Kn} {r : Rw} {skip n : Int} {j : Nat} {s : Bst} (hr : RI r) (hj : j < 16) (hs : SI s) :
    nearJ k r skip n j s = if ((r.d j == 4294967295) && (!has skip j && (alOk k r n j && (decide (s.at' < 0) || decide (alRd k n j < bstA s))))) = true then ⟨j, alRd k n j, alRp k n j, alRn k n j⟩ else s := by
  have e : (alOk k r n j && decide (alRd k n j < s.a)) = (alOk k r n j && (decide (s.at' < 0) || decide (alRd k n j < bstA s))) := by
    cases ho : alOk k r n j with
    | false => rfl
    | true =>
      have hlt := alRd_lt ho
      rw [Bool.true_and, Bool.true_and]
      unfold bstA
      rcases hs with ⟨q1, q2, _, _⟩ | ⟨q1, q2, q3⟩
      · rw [q1, q2, decide_eq_true hlt]; rfl
      · have : ¬ s.at' < 0 := by omega
        rw [if_neg this, decide_eq_false this, Bool.false_or]
  unfold nearJ
  rw [rowNone_RI hr hj, e]
theorem bst_nA (j : Nat) (a b c : Int) : bstA ⟨(j : Int), a, b, c⟩ = a := if_neg (show ¬ (j : Int) < 0 by omega)
theorem bst_nB (j : Nat) (a b c : Int) : bstB ⟨(j : Int), a, b, c⟩ = b := if_neg (show ¬ (j : Int) < 0 by omega)
theorem bst_nC (j : Nat) (a b c : Int) : bstC ⟨(j : Int), a, b, c⟩ = c := if_neg (show ¬ (j : Int) < 0 by omega)
set_option maxHeartbeats 8000000 in
theorem rsettle_ev (K : Nat) (self up : Int) (c : Nat → Int) (tD tP : Nat → Nat → Int) (skip : Int) :
    evF Tryz.prog env xt (K+6) 89 [.d (knD self up c tD tP), .d (.s (.int .i64 (skip)))] = some (.d (rowsD (settleF ⟨self, up, c, tD, tP⟩ skip).d (settleF ⟨self, up, c, tD, tP⟩ skip).p (settleF ⟨self, up, c, tD, tP⟩ skip).n)) := by
  rw [evF_eq Tryz.func89 (show Tryz.f89.body = some _ from rfl) rfl rfl rfl (by show 2 ≤ 71; decide)]
  simp (decide := true) only [rempty_ev, Tryz.f89, rid, kl89_3, kl89_6, kl89_9, dp89_14, ↓sBp, sBq, List.all_cons, List.all_nil, List.map_cons, List.map_nil, D.shape, Sh.sub, Sh.size, List.getElem?_cons_zero, List.getElem?_cons_succ, Option.bind_some, Option.bind_none, Option.getD_some, Option.getD_none, V.keysIn, V.kill, V.has, decide_eq_true_eq, beq_iff_eq, bne_iff_ne, ne_eq, Bool.not_eq_true', Bool.and_true, Bool.and_self, Bool.true_and, if_true, if_false, reduceIte, Bool.false_eq_true, decide_true, decide_false, beq_self_eq_true, Bool.not_true, Bool.not_false, true_and, and_true, and_self, List.append_assoc, List.nil_append, List.cons_append, Int.toNat_natCast, ck, Int.cast_ofNat_Int, Int.reduceToNat, bne_self_eq_false, Bool.or_false, Bool.false_or, Bool.false_and, Bool.and_false, Bool.or_true, Bool.true_or]
  generalize hk : (⟨self, up, c, tD, tP⟩ : Kn) = k
  have ks : emptyR k.self = emptyR self := by rw [← hk]
  have ku : k.up = up := by rw [← hk]
  have hlen := listTo_len up 16
  have hle := ints_length (listTo up 16)
  have al0 : ∀ (r : Rw) (n j : Nat) K, evF Tryz.prog env xt (K+4) 125 [.d (knD self up c tD tP), .d (rowsD r.d r.p r.n), .d (.s (.int .i64 ((n : Nat)))), .d (.s (.int .i64 ((j : Nat))))] = some (.tcons (.d (rowD (alRd k n j) (alRp k n j) (alRn k n j))) (.tcons (.d (.s (.bool (alOk k r n j)))) .tnil)) := fun r n j K => by
    rw [rallowed_ev, hk]
  obtain ⟨N, hN15, hN, hNe⟩ : ∃ N, N ≤ 15 ∧ (∀ t, t < N → ¬ (near k (setTo k skip t) skip).at' < 0) ∧ (N = 15 ∨ (near k (setTo k skip N) skip).at' < 0) := by
    by_cases he : ∃ m, m < 15 ∧ (near k (setTo k skip m) skip).at' < 0
    · obtain ⟨m, hm, hz, hf⟩ := first_of he
      exact ⟨m, by omega, hf, Or.inr hz⟩
    · exact ⟨15, Nat.le_refl _, fun t ht h => he ⟨t, ht, h⟩, Or.inl rfl⟩
  rw [iter_run (S := fun t => ⟨tab .junk [(1, .d (.s (.int .i64 (skip)))), (2, .ptr 2 (shK) [] (shK)), (4, .ptr 4 (shRs) [] (shRs)), (5, .ptr 5 (shRs) [] (shRs)), (16, .d (.s (.int .i64 (t))))], tab none [(2, some (.box (knD self up c tD tP))), (4, some (.box (Z40))), (5, some (.box (rowsD (setTo k skip t).d (setTo k skip t).p (setTo k skip t).n)))]⟩) (n := N) (h0 := ?h0) (hn := ?hn) (step := ?step)]
  case h0 => rw [show setTo k skip 0 = emptyR self from ks]; rfl
  case hn => exact lt_loopFuel (by omega)
  case step =>
    intro t ht
    have hk1 : (t : Int) < 15 := by omega
    have hk0 : (0 : Int) ≤ t := by omega
    have hkw := wrap_succ t (by omega)
    have hr := RI_to k skip t
    have hz := hN t ht
    have es : setTo k skip (t + 1) = setStep k skip (setTo k skip t) := rfl
    rw [es]
    generalize setTo k skip t = r at hr hz
    simp (decide := true) only [hk1, hk0, rup_ev, Tryz.f89, rid, kl89_3, kl89_6, kl89_9, dp89_14, ↓sBp, sBq, List.all_cons, List.all_nil, List.map_cons, List.map_nil, D.shape, Sh.sub, Sh.size, List.getElem?_cons_zero, List.getElem?_cons_succ, Option.bind_some, Option.bind_none, Option.getD_some, Option.getD_none, V.keysIn, V.kill, V.has, decide_eq_true_eq, beq_iff_eq, bne_iff_ne, ne_eq, Bool.not_eq_true', Bool.and_true, Bool.and_self, Bool.true_and, if_true, if_false, reduceIte, Bool.false_eq_true, decide_true, decide_false, beq_self_eq_true, Bool.not_true, Bool.not_false, true_and, and_true, and_self, List.append_assoc, List.nil_append, List.cons_append, Int.toNat_natCast, ck, Int.cast_ofNat_Int, Int.reduceToNat, bne_self_eq_false, Bool.or_false, Bool.false_or, Bool.false_and, Bool.and_false, Bool.or_true, Bool.true_or]
    rw [iter_run (S := fun i => ⟨tab .junk [(1, .d (.s (.int .i64 (skip)))), (2, .ptr 2 (shK) [] (shK)), (4, .ptr 4 (shRs) [] (shRs)), (5, .ptr 5 (shRs) [] (shRs)), (6, .d (.s (.int .i64 ((nearTo k r skip i).at')))), (7, .ptr 7 (shR) [] (shR)), (16, .d (.s (.int .i64 (t)))), (21, .sl (.tg 21) cI (ints (listTo up 16))), (22, .d (.s (.int .i64 ((listTo up 16).length)))), (23, .d (.s (.int .i64 (i))))], tab none [(2, some (.box (knD self up c tD tP))), (4, some (.box (Z40))), (5, some (.box (rowsD r.d r.p r.n))), (7, some (.box (rowD (bstA (nearTo k r skip i)) (bstB (nearTo k r skip i)) (bstC (nearTo k r skip i))))), (21, some .row)]⟩) (n := (listTo up 16).length) (h0 := ?h0) (hn := ?hn) (step := ?step)]
    case h0 => rw [hle]; rfl
    case hn => exact lt_loopFuel (by omega)
    case step =>
      intro i hi
      have hi1 : (i : Int) < ((listTo up 16).length : Int) := by omega
      have hi0 : (0 : Int) ≤ i := by omega
      have hiw := wrap_succ i (by omega)
      obtain ⟨n, hn, hh, he⟩ := listTo_get up hi
      have hg := ints_get he
      have hgd : (listTo k.up 16).getD i 0 = (n : Int) := by rw [ku]; simp [List.getD, he]
      have es : nearTo k r skip (i + 1) = nearN k r skip n (nearTo k r skip i) 16 := by
        show nearN k r skip ((listTo k.up 16).getD i 0) (nearTo k r skip i) 16 = _
        rw [hgd]
      rw [es]
      have hs0 := SI_to k r skip i
      generalize nearTo k r skip i = s0 at hs0
      simp (decide := true) only [hi1, hi0, hg, Tryz.f89, rid, kl89_3, kl89_6, kl89_9, dp89_14, ↓sBp, sBq, List.all_cons, List.all_nil, List.map_cons, List.map_nil, D.shape, Sh.sub, Sh.size, List.getElem?_cons_zero, List.getElem?_cons_succ, Option.bind_some, Option.bind_none, Option.getD_some, Option.getD_none, V.keysIn, V.kill, V.has, decide_eq_true_eq, beq_iff_eq, bne_iff_ne, ne_eq, Bool.not_eq_true', Bool.and_true, Bool.and_self, Bool.true_and, if_true, if_false, reduceIte, Bool.false_eq_true, decide_true, decide_false, beq_self_eq_true, Bool.not_true, Bool.not_false, true_and, and_true, and_self, List.append_assoc, List.nil_append, List.cons_append, Int.toNat_natCast, ck, Int.cast_ofNat_Int, Int.reduceToNat, bne_self_eq_false, Bool.or_false, Bool.false_or, Bool.false_and, Bool.and_false, Bool.or_true, Bool.true_or]
      rw [iter_run (S := fun j => ⟨tab .junk [(1, .d (.s (.int .i64 (skip)))), (2, .ptr 2 (shK) [] (shK)), (4, .ptr 4 (shRs) [] (shRs)), (5, .ptr 5 (shRs) [] (shRs)), (6, .d (.s (.int .i64 ((nearN k r skip n s0 j).at')))), (7, .ptr 7 (shR) [] (shR)), (9, .d (.s (.int .i64 ((n : Nat))))), (16, .d (.s (.int .i64 (t)))), (21, .sl (.tg 21) cI (ints (listTo up 16))), (22, .d (.s (.int .i64 ((listTo up 16).length)))), (23, .d (.s (.int .i64 (i)))), (27, .d (.s (.int .i64 (j))))], tab none [(2, some (.box (knD self up c tD tP))), (4, some (.box (Z40))), (5, some (.box (rowsD r.d r.p r.n))), (7, some (.box (rowD (bstA (nearN k r skip n s0 j)) (bstB (nearN k r skip n s0 j)) (bstC (nearN k r skip n s0 j))))), (21, some .row)]⟩) (n := 16) (h0 := ?h0) (hn := lt_loopFuel (by decide)) (step := ?step)]
      case h0 => rfl
      case step =>
        intro j hj
        have hj1 : (j : Int) < 16 := by omega
        have hj0 : (0 : Int) ≤ j := by omega
        have hjw := wrap_succ j (by omega)
        have ej : nearN k r skip n s0 (j + 1) = nearJ k r skip n j (nearN k r skip n s0 j) := rfl
        rw [ej]
        have hs := SI_N (n := n) (r := r) (k := k) (skip := skip) hs0 j (by omega)
        generalize nearN k r skip n s0 j = s at hs
        have en := nearJ_eq (n := n) (skip := skip) (k := k) hr hj hs
        have al := al0 r n j
        rcases Bool.eq_false_or_eq_true (r.d j == 4294967295) with h1 | h1
        case inr =>
          rw [h1] at en
          have h1' : (r.d j != 4294967295) = true := by unfold bne; rw [h1]; rfl
          simp (decide := true) only [hj1, hj0, hjw, h1', en, Tryz.f89, rid, kl89_3, kl89_6, kl89_9, dp89_14, ↓sBp, sBq, List.all_cons, List.all_nil, List.map_cons, List.map_nil, D.shape, Sh.sub, Sh.size, List.getElem?_cons_zero, List.getElem?_cons_succ, Option.bind_some, Option.bind_none, Option.getD_some, Option.getD_none, V.keysIn, V.kill, V.has, decide_eq_true_eq, beq_iff_eq, bne_iff_ne, ne_eq, Bool.not_eq_true', Bool.and_true, Bool.and_self, Bool.true_and, if_true, if_false, reduceIte, Bool.false_eq_true, decide_true, decide_false, beq_self_eq_true, Bool.not_true, Bool.not_false, true_and, and_true, and_self, List.append_assoc, List.nil_append, List.cons_append, Int.toNat_natCast, ck, Int.cast_ofNat_Int, Int.reduceToNat, bne_self_eq_false, Bool.or_false, Bool.false_or, Bool.false_and, Bool.and_false, Bool.or_true, Bool.true_or]
        have h1' : (r.d j != 4294967295) = false := by unfold bne; rw [h1]; rfl
        rcases Bool.eq_false_or_eq_true (has skip j) with h2 | h2
        case inl =>
          rw [h1, h2] at en
          simp (decide := true) only [hj1, hj0, hjw, h1', rhas_ev, h2, en, Tryz.f89, rid, kl89_3, kl89_6, kl89_9, dp89_14, ↓sBp, sBq, List.all_cons, List.all_nil, List.map_cons, List.map_nil, D.shape, Sh.sub, Sh.size, List.getElem?_cons_zero, List.getElem?_cons_succ, Option.bind_some, Option.bind_none, Option.getD_some, Option.getD_none, V.keysIn, V.kill, V.has, decide_eq_true_eq, beq_iff_eq, bne_iff_ne, ne_eq, Bool.not_eq_true', Bool.and_true, Bool.and_self, Bool.true_and, if_true, if_false, reduceIte, Bool.false_eq_true, decide_true, decide_false, beq_self_eq_true, Bool.not_true, Bool.not_false, true_and, and_true, and_self, List.append_assoc, List.nil_append, List.cons_append, Int.toNat_natCast, ck, Int.cast_ofNat_Int, Int.reduceToNat, bne_self_eq_false, Bool.or_false, Bool.false_or, Bool.false_and, Bool.and_false, Bool.or_true, Bool.true_or]
        rcases Bool.eq_false_or_eq_true (alOk k r n j) with h3 | h3
        case inr =>
          rw [h1, h2, h3] at en
          simp (decide := true) only [hj1, hj0, hjw, h1', rhas_ev, h2, al, h3, en, Tryz.f89, rid, kl89_3, kl89_6, kl89_9, dp89_14, ↓sBp, sBq, List.all_cons, List.all_nil, List.map_cons, List.map_nil, D.shape, Sh.sub, Sh.size, List.getElem?_cons_zero, List.getElem?_cons_succ, Option.bind_some, Option.bind_none, Option.getD_some, Option.getD_none, V.keysIn, V.kill, V.has, decide_eq_true_eq, beq_iff_eq, bne_iff_ne, ne_eq, Bool.not_eq_true', Bool.and_true, Bool.and_self, Bool.true_and, if_true, if_false, reduceIte, Bool.false_eq_true, decide_true, decide_false, beq_self_eq_true, Bool.not_true, Bool.not_false, true_and, and_true, and_self, List.append_assoc, List.nil_append, List.cons_append, Int.toNat_natCast, ck, Int.cast_ofNat_Int, Int.reduceToNat, bne_self_eq_false, Bool.or_false, Bool.false_or, Bool.false_and, Bool.and_false, Bool.or_true, Bool.true_or]
        by_cases h4 : s.at' < 0
        · rw [h1, h2, h3, decide_eq_true h4] at en
          simp (decide := true) only [hj1, hj0, hjw, h1', rhas_ev, h2, al, h3, h4, en, bst_nA, bst_nB, bst_nC, Tryz.f89, rid, kl89_3, kl89_6, kl89_9, dp89_14, ↓sBp, sBq, List.all_cons, List.all_nil, List.map_cons, List.map_nil, D.shape, Sh.sub, Sh.size, List.getElem?_cons_zero, List.getElem?_cons_succ, Option.bind_some, Option.bind_none, Option.getD_some, Option.getD_none, V.keysIn, V.kill, V.has, decide_eq_true_eq, beq_iff_eq, bne_iff_ne, ne_eq, Bool.not_eq_true', Bool.and_true, Bool.and_self, Bool.true_and, if_true, if_false, reduceIte, Bool.false_eq_true, decide_true, decide_false, beq_self_eq_true, Bool.not_true, Bool.not_false, true_and, and_true, and_self, List.append_assoc, List.nil_append, List.cons_append, Int.toNat_natCast, ck, Int.cast_ofNat_Int, Int.reduceToNat, bne_self_eq_false, Bool.or_false, Bool.false_or, Bool.false_and, Bool.and_false, Bool.or_true, Bool.true_or]
        by_cases h5 : alRd k n j < bstA s
        · rw [h1, h2, h3, decide_eq_false h4, decide_eq_true h5] at en
          simp (decide := true) only [hj1, hj0, hjw, h1', rhas_ev, h2, al, h3, h4, h5, en, bst_nA, bst_nB, bst_nC, Tryz.f89, rid, kl89_3, kl89_6, kl89_9, dp89_14, ↓sBp, sBq, List.all_cons, List.all_nil, List.map_cons, List.map_nil, D.shape, Sh.sub, Sh.size, List.getElem?_cons_zero, List.getElem?_cons_succ, Option.bind_some, Option.bind_none, Option.getD_some, Option.getD_none, V.keysIn, V.kill, V.has, decide_eq_true_eq, beq_iff_eq, bne_iff_ne, ne_eq, Bool.not_eq_true', Bool.and_true, Bool.and_self, Bool.true_and, if_true, if_false, reduceIte, Bool.false_eq_true, decide_true, decide_false, beq_self_eq_true, Bool.not_true, Bool.not_false, true_and, and_true, and_self, List.append_assoc, List.nil_append, List.cons_append, Int.toNat_natCast, ck, Int.cast_ofNat_Int, Int.reduceToNat, bne_self_eq_false, Bool.or_false, Bool.false_or, Bool.false_and, Bool.and_false, Bool.or_true, Bool.true_or]
        · rw [h1, h2, h3, decide_eq_false h4, decide_eq_false h5] at en
          simp (decide := true) only [hj1, hj0, hjw, h1', rhas_ev, h2, al, h3, h4, h5, en, Tryz.f89, rid, kl89_3, kl89_6, kl89_9, dp89_14, ↓sBp, sBq, List.all_cons, List.all_nil, List.map_cons, List.map_nil, D.shape, Sh.sub, Sh.size, List.getElem?_cons_zero, List.getElem?_cons_succ, Option.bind_some, Option.bind_none, Option.getD_some, Option.getD_none, V.keysIn, V.kill, V.has, decide_eq_true_eq, beq_iff_eq, bne_iff_ne, ne_eq, Bool.not_eq_true', Bool.and_true, Bool.and_self, Bool.true_and, if_true, if_false, reduceIte, Bool.false_eq_true, decide_true, decide_false, beq_self_eq_true, Bool.not_true, Bool.not_false, true_and, and_true, and_self, List.append_assoc, List.nil_append, List.cons_append, Int.toNat_natCast, ck, Int.cast_ofNat_Int, Int.reduceToNat, bne_self_eq_false, Bool.or_false, Bool.false_or, Bool.false_and, Bool.and_false, Bool.or_true, Bool.true_or]
      simp (decide := true) only [hiw, Tryz.f89, rid, kl89_3, kl89_6, kl89_9, dp89_14, ↓sBp, sBq, List.all_cons, List.all_nil, List.map_cons, List.map_nil, D.shape, Sh.sub, Sh.size, List.getElem?_cons_zero, List.getElem?_cons_succ, Option.bind_some, Option.bind_none, Option.getD_some, Option.getD_none, V.keysIn, V.kill, V.has, decide_eq_true_eq, beq_iff_eq, bne_iff_ne, ne_eq, Bool.not_eq_true', Bool.and_true, Bool.and_self, Bool.true_and, if_true, if_false, reduceIte, Bool.false_eq_true, decide_true, decide_false, beq_self_eq_true, Bool.not_true, Bool.not_false, true_and, and_true, and_self, List.append_assoc, List.nil_append, List.cons_append, Int.toNat_natCast, ck, Int.cast_ofNat_Int, Int.reduceToNat, bne_self_eq_false, Bool.or_false, Bool.false_or, Bool.false_and, Bool.and_false, Bool.or_true, Bool.true_or]
    have ee : nearTo k r skip (listTo up 16).length = near k r skip := by unfold near; rw [ku]
    rw [ee]
    have hs := SI_to k r skip (listTo k.up 16).length
    have hs : SI (near k r skip) := hs
    have b0 : 0 ≤ (near k r skip).at' := by omega
    have b1 : (near k r skip).at' < 16 := by
      rcases hs with ⟨q, _⟩ | ⟨_, q, _⟩
      · omega
      · exact q
    have e2 : setStep k skip r = ⟨setN r.d (near k r skip).at'.toNat (near k r skip).a, setN r.p (near k r skip).at'.toNat (near k r skip).b, setN r.n (near k r skip).at'.toNat (near k r skip).c⟩ := by
      unfold setStep
      rw [if_neg (by rw [near_RI, decide_eq_false hz]; exact Bool.false_ne_true)]
    rw [e2]
    have eA : bstA (near k r skip) = (near k r skip).a := if_neg hz
    have eB : bstB (near k r skip) = (near k r skip).b := if_neg hz
    have eC : bstC (near k r skip) = (near k r skip).c := if_neg hz
    rw [eA, eB, eC]
    generalize near k r skip = s at hz b0 b1
    simp (decide := true) only [Int.lt_irrefl, hz, b0, b1, setN_row, hkw, Tryz.f89, rid, kl89_3, kl89_6, kl89_9, dp89_14, ↓sBp, sBq, List.all_cons, List.all_nil, List.map_cons, List.map_nil, D.shape, Sh.sub, Sh.size, List.getElem?_cons_zero, List.getElem?_cons_succ, Option.bind_some, Option.bind_none, Option.getD_some, Option.getD_none, V.keysIn, V.kill, V.has, decide_eq_true_eq, beq_iff_eq, bne_iff_ne, ne_eq, Bool.not_eq_true', Bool.and_true, Bool.and_self, Bool.true_and, if_true, if_false, reduceIte, Bool.false_eq_true, decide_true, decide_false, beq_self_eq_true, Bool.not_true, Bool.not_false, true_and, and_true, and_self, List.append_assoc, List.nil_append, List.cons_append, Int.toNat_natCast, ck, Int.cast_ofNat_Int, Int.reduceToNat, bne_self_eq_false, Bool.or_false, Bool.false_or, Bool.false_and, Bool.and_false, Bool.or_true, Bool.true_or]
  rcases hNe with e15 | hz
  · subst e15
    have ef : settleF k skip = setTo k skip 15 := rfl
    simp (decide := true) only [Int.lt_irrefl, ef, Tryz.f89, rid, kl89_3, kl89_6, kl89_9, dp89_14, ↓sBp, sBq, List.all_cons, List.all_nil, List.map_cons, List.map_nil, D.shape, Sh.sub, Sh.size, List.getElem?_cons_zero, List.getElem?_cons_succ, Option.bind_some, Option.bind_none, Option.getD_some, Option.getD_none, V.keysIn, V.kill, V.has, decide_eq_true_eq, beq_iff_eq, bne_iff_ne, ne_eq, Bool.not_eq_true', Bool.and_true, Bool.and_self, Bool.true_and, if_true, if_false, reduceIte, Bool.false_eq_true, decide_true, decide_false, beq_self_eq_true, Bool.not_true, Bool.not_false, true_and, and_true, and_self, List.append_assoc, List.nil_append, List.cons_append, Int.toNat_natCast, ck, Int.cast_ofNat_Int, Int.reduceToNat, bne_self_eq_false, Bool.or_false, Bool.false_or, Bool.false_and, Bool.and_false, Bool.or_true, Bool.true_or]
  · by_cases e15 : N = 15
    · subst e15
      have ef : settleF k skip = setTo k skip 15 := rfl
      simp (decide := true) only [Int.lt_irrefl, ef, Tryz.f89, rid, kl89_3, kl89_6, kl89_9, dp89_14, ↓sBp, sBq, List.all_cons, List.all_nil, List.map_cons, List.map_nil, D.shape, Sh.sub, Sh.size, List.getElem?_cons_zero, List.getElem?_cons_succ, Option.bind_some, Option.bind_none, Option.getD_some, Option.getD_none, V.keysIn, V.kill, V.has, decide_eq_true_eq, beq_iff_eq, bne_iff_ne, ne_eq, Bool.not_eq_true', Bool.and_true, Bool.and_self, Bool.true_and, if_true, if_false, reduceIte, Bool.false_eq_true, decide_true, decide_false, beq_self_eq_true, Bool.not_true, Bool.not_false, true_and, and_true, and_self, List.append_assoc, List.nil_append, List.cons_append, Int.toNat_natCast, ck, Int.cast_ofNat_Int, Int.reduceToNat, bne_self_eq_false, Bool.or_false, Bool.false_or, Bool.false_and, Bool.and_false, Bool.or_true, Bool.true_or]
    have ef : settleF k skip = setTo k skip N := setTo_stop (by rw [near_RI, decide_eq_true hz]) 15 (by omega)
    rw [ef]
    have hr := RI_to k skip N
    have hk1 : (N : Int) < 15 := by omega
    have hk0 : (0 : Int) ≤ N := by omega
    generalize setTo k skip N = r at hr hz
    generalize ht : N = t at hk1 hk0
    simp (decide := true) only [hk1, hk0, rup_ev, Tryz.f89, rid, kl89_3, kl89_6, kl89_9, dp89_14, ↓sBp, sBq, List.all_cons, List.all_nil, List.map_cons, List.map_nil, D.shape, Sh.sub, Sh.size, List.getElem?_cons_zero, List.getElem?_cons_succ, Option.bind_some, Option.bind_none, Option.getD_some, Option.getD_none, V.keysIn, V.kill, V.has, decide_eq_true_eq, beq_iff_eq, bne_iff_ne, ne_eq, Bool.not_eq_true', Bool.and_true, Bool.and_self, Bool.true_and, if_true, if_false, reduceIte, Bool.false_eq_true, decide_true, decide_false, beq_self_eq_true, Bool.not_true, Bool.not_false, true_and, and_true, and_self, List.append_assoc, List.nil_append, List.cons_append, Int.toNat_natCast, ck, Int.cast_ofNat_Int, Int.reduceToNat, bne_self_eq_false, Bool.or_false, Bool.false_or, Bool.false_and, Bool.and_false, Bool.or_true, Bool.true_or]
    rw [iter_run (S := fun i => ⟨tab .junk [(1, .d (.s (.int .i64 (skip)))), (2, .ptr 2 (shK) [] (shK)), (4, .ptr 4 (shRs) [] (shRs)), (5, .ptr 5 (shRs) [] (shRs)), (6, .d (.s (.int .i64 ((nearTo k r skip i).at')))), (7, .ptr 7 (shR) [] (shR)), (16, .d (.s (.int .i64 (t)))), (21, .sl (.tg 21) cI (ints (listTo up 16))), (22, .d (.s (.int .i64 ((listTo up 16).length)))), (23, .d (.s (.int .i64 (i))))], tab none [(2, some (.box (knD self up c tD tP))), (4, some (.box (Z40))), (5, some (.box (rowsD r.d r.p r.n))), (7, some (.box (rowD (bstA (nearTo k r skip i)) (bstB (nearTo k r skip i)) (bstC (nearTo k r skip i))))), (21, some .row)]⟩) (n := (listTo up 16).length) (h0 := ?h0) (hn := ?hn) (step := ?step)]
    case h0 => rw [hle]; rfl
    case hn => exact lt_loopFuel (by omega)
    case step =>
      intro i hi
      have hi1 : (i : Int) < ((listTo up 16).length : Int) := by omega
      have hi0 : (0 : Int) ≤ i := by omega
      have hiw := wrap_succ i (by omega)
      obtain ⟨n, hn, hh, he⟩ := listTo_get up hi
      have hg := ints_get he
      have hgd : (listTo k.up 16).getD i 0 = (n : Int) := by rw [ku]; simp [List.getD, he]
      have es : nearTo k r skip (i + 1) = nearN k r skip n (nearTo k r skip i) 16 := by
        show nearN k r skip ((listTo k.up 16).getD i 0) (nearTo k r skip i) 16 = _
        rw [hgd]
      rw [es]
      have hs0 := SI_to k r skip i
      generalize nearTo k r skip i = s0 at hs0
      simp (decide := true) only [hi1, hi0, hg, Tryz.f89, rid, kl89_3, kl89_6, kl89_9, dp89_14, ↓sBp, sBq, List.all_cons, List.all_nil, List.map_cons, List.map_nil, D.shape, Sh.sub, Sh.size, List.getElem?_cons_zero, List.getElem?_cons_succ, Option.bind_some, Option.bind_none, Option.getD_some, Option.getD_none, V.keysIn, V.kill, V.has, decide_eq_true_eq, beq_iff_eq, bne_iff_ne, ne_eq, Bool.not_eq_true', Bool.and_true, Bool.and_self, Bool.true_and, if_true, if_false, reduceIte, Bool.false_eq_true, decide_true, decide_false, beq_self_eq_true, Bool.not_true, Bool.not_false, true_and, and_true, and_self, List.append_assoc, List.nil_append, List.cons_append, Int.toNat_natCast, ck, Int.cast_ofNat_Int, Int.reduceToNat, bne_self_eq_false, Bool.or_false, Bool.false_or, Bool.false_and, Bool.and_false, Bool.or_true, Bool.true_or]
      rw [iter_run (S := fun j => ⟨tab .junk [(1, .d (.s (.int .i64 (skip)))), (2, .ptr 2 (shK) [] (shK)), (4, .ptr 4 (shRs) [] (shRs)), (5, .ptr 5 (shRs) [] (shRs)), (6, .d (.s (.int .i64 ((nearN k r skip n s0 j).at')))), (7, .ptr 7 (shR) [] (shR)), (9, .d (.s (.int .i64 ((n : Nat))))), (16, .d (.s (.int .i64 (t)))), (21, .sl (.tg 21) cI (ints (listTo up 16))), (22, .d (.s (.int .i64 ((listTo up 16).length)))), (23, .d (.s (.int .i64 (i)))), (27, .d (.s (.int .i64 (j))))], tab none [(2, some (.box (knD self up c tD tP))), (4, some (.box (Z40))), (5, some (.box (rowsD r.d r.p r.n))), (7, some (.box (rowD (bstA (nearN k r skip n s0 j)) (bstB (nearN k r skip n s0 j)) (bstC (nearN k r skip n s0 j))))), (21, some .row)]⟩) (n := 16) (h0 := ?h0) (hn := lt_loopFuel (by decide)) (step := ?step)]
      case h0 => rfl
      case step =>
        intro j hj
        have hj1 : (j : Int) < 16 := by omega
        have hj0 : (0 : Int) ≤ j := by omega
        have hjw := wrap_succ j (by omega)
        have ej : nearN k r skip n s0 (j + 1) = nearJ k r skip n j (nearN k r skip n s0 j) := rfl
        rw [ej]
        have hs := SI_N (n := n) (r := r) (k := k) (skip := skip) hs0 j (by omega)
        generalize nearN k r skip n s0 j = s at hs
        have en := nearJ_eq (n := n) (skip := skip) (k := k) hr hj hs
        have al := al0 r n j
        rcases Bool.eq_false_or_eq_true (r.d j == 4294967295) with h1 | h1
        case inr =>
          rw [h1] at en
          have h1' : (r.d j != 4294967295) = true := by unfold bne; rw [h1]; rfl
          simp (decide := true) only [hj1, hj0, hjw, h1', en, Tryz.f89, rid, kl89_3, kl89_6, kl89_9, dp89_14, ↓sBp, sBq, List.all_cons, List.all_nil, List.map_cons, List.map_nil, D.shape, Sh.sub, Sh.size, List.getElem?_cons_zero, List.getElem?_cons_succ, Option.bind_some, Option.bind_none, Option.getD_some, Option.getD_none, V.keysIn, V.kill, V.has, decide_eq_true_eq, beq_iff_eq, bne_iff_ne, ne_eq, Bool.not_eq_true', Bool.and_true, Bool.and_self, Bool.true_and, if_true, if_false, reduceIte, Bool.false_eq_true, decide_true, decide_false, beq_self_eq_true, Bool.not_true, Bool.not_false, true_and, and_true, and_self, List.append_assoc, List.nil_append, List.cons_append, Int.toNat_natCast, ck, Int.cast_ofNat_Int, Int.reduceToNat, bne_self_eq_false, Bool.or_false, Bool.false_or, Bool.false_and, Bool.and_false, Bool.or_true, Bool.true_or]
        have h1' : (r.d j != 4294967295) = false := by unfold bne; rw [h1]; rfl
        rcases Bool.eq_false_or_eq_true (has skip j) with h2 | h2
        case inl =>
          rw [h1, h2] at en
          simp (decide := true) only [hj1, hj0, hjw, h1', rhas_ev, h2, en, Tryz.f89, rid, kl89_3, kl89_6, kl89_9, dp89_14, ↓sBp, sBq, List.all_cons, List.all_nil, List.map_cons, List.map_nil, D.shape, Sh.sub, Sh.size, List.getElem?_cons_zero, List.getElem?_cons_succ, Option.bind_some, Option.bind_none, Option.getD_some, Option.getD_none, V.keysIn, V.kill, V.has, decide_eq_true_eq, beq_iff_eq, bne_iff_ne, ne_eq, Bool.not_eq_true', Bool.and_true, Bool.and_self, Bool.true_and, if_true, if_false, reduceIte, Bool.false_eq_true, decide_true, decide_false, beq_self_eq_true, Bool.not_true, Bool.not_false, true_and, and_true, and_self, List.append_assoc, List.nil_append, List.cons_append, Int.toNat_natCast, ck, Int.cast_ofNat_Int, Int.reduceToNat, bne_self_eq_false, Bool.or_false, Bool.false_or, Bool.false_and, Bool.and_false, Bool.or_true, Bool.true_or]
        rcases Bool.eq_false_or_eq_true (alOk k r n j) with h3 | h3
        case inr =>
          rw [h1, h2, h3] at en
          simp (decide := true) only [hj1, hj0, hjw, h1', rhas_ev, h2, al, h3, en, Tryz.f89, rid, kl89_3, kl89_6, kl89_9, dp89_14, ↓sBp, sBq, List.all_cons, List.all_nil, List.map_cons, List.map_nil, D.shape, Sh.sub, Sh.size, List.getElem?_cons_zero, List.getElem?_cons_succ, Option.bind_some, Option.bind_none, Option.getD_some, Option.getD_none, V.keysIn, V.kill, V.has, decide_eq_true_eq, beq_iff_eq, bne_iff_ne, ne_eq, Bool.not_eq_true', Bool.and_true, Bool.and_self, Bool.true_and, if_true, if_false, reduceIte, Bool.false_eq_true, decide_true, decide_false, beq_self_eq_true, Bool.not_true, Bool.not_false, true_and, and_true, and_self, List.append_assoc, List.nil_append, List.cons_append, Int.toNat_natCast, ck, Int.cast_ofNat_Int, Int.reduceToNat, bne_self_eq_false, Bool.or_false, Bool.false_or, Bool.false_and, Bool.and_false, Bool.or_true, Bool.true_or]
        by_cases h4 : s.at' < 0
        · rw [h1, h2, h3, decide_eq_true h4] at en
          simp (decide := true) only [hj1, hj0, hjw, h1', rhas_ev, h2, al, h3, h4, en, bst_nA, bst_nB, bst_nC, Tryz.f89, rid, kl89_3, kl89_6, kl89_9, dp89_14, ↓sBp, sBq, List.all_cons, List.all_nil, List.map_cons, List.map_nil, D.shape, Sh.sub, Sh.size, List.getElem?_cons_zero, List.getElem?_cons_succ, Option.bind_some, Option.bind_none, Option.getD_some, Option.getD_none, V.keysIn, V.kill, V.has, decide_eq_true_eq, beq_iff_eq, bne_iff_ne, ne_eq, Bool.not_eq_true', Bool.and_true, Bool.and_self, Bool.true_and, if_true, if_false, reduceIte, Bool.false_eq_true, decide_true, decide_false, beq_self_eq_true, Bool.not_true, Bool.not_false, true_and, and_true, and_self, List.append_assoc, List.nil_append, List.cons_append, Int.toNat_natCast, ck, Int.cast_ofNat_Int, Int.reduceToNat, bne_self_eq_false, Bool.or_false, Bool.false_or, Bool.false_and, Bool.and_false, Bool.or_true, Bool.true_or]
        by_cases h5 : alRd k n j < bstA s
        · rw [h1, h2, h3, decide_eq_false h4, decide_eq_true h5] at en
          simp (decide := true) only [hj1, hj0, hjw, h1', rhas_ev, h2, al, h3, h4, h5, en, bst_nA, bst_nB, bst_nC, Tryz.f89, rid, kl89_3, kl89_6, kl89_9, dp89_14, ↓sBp, sBq, List.all_cons, List.all_nil, List.map_cons, List.map_nil, D.shape, Sh.sub, Sh.size, List.getElem?_cons_zero, List.getElem?_cons_succ, Option.bind_some, Option.bind_none, Option.getD_some, Option.getD_none, V.keysIn, V.kill, V.has, decide_eq_true_eq, beq_iff_eq, bne_iff_ne, ne_eq, Bool.not_eq_true', Bool.and_true, Bool.and_self, Bool.true_and, if_true, if_false, reduceIte, Bool.false_eq_true, decide_true, decide_false, beq_self_eq_true, Bool.not_true, Bool.not_false, true_and, and_true, and_self, List.append_assoc, List.nil_append, List.cons_append, Int.toNat_natCast, ck, Int.cast_ofNat_Int, Int.reduceToNat, bne_self_eq_false, Bool.or_false, Bool.false_or, Bool.false_and, Bool.and_false, Bool.or_true, Bool.true_or]
        · rw [h1, h2, h3, decide_eq_false h4, decide_eq_false h5] at en
          simp (decide := true) only [hj1, hj0, hjw, h1', rhas_ev, h2, al, h3, h4, h5, en, Tryz.f89, rid, kl89_3, kl89_6, kl89_9, dp89_14, ↓sBp, sBq, List.all_cons, List.all_nil, List.map_cons, List.map_nil, D.shape, Sh.sub, Sh.size, List.getElem?_cons_zero, List.getElem?_cons_succ, Option.bind_some, Option.bind_none, Option.getD_some, Option.getD_none, V.keysIn, V.kill, V.has, decide_eq_true_eq, beq_iff_eq, bne_iff_ne, ne_eq, Bool.not_eq_true', Bool.and_true, Bool.and_self, Bool.true_and, if_true, if_false, reduceIte, Bool.false_eq_true, decide_true, decide_false, beq_self_eq_true, Bool.not_true, Bool.not_false, true_and, and_true, and_self, List.append_assoc, List.nil_append, List.cons_append, Int.toNat_natCast, ck, Int.cast_ofNat_Int, Int.reduceToNat, bne_self_eq_false, Bool.or_false, Bool.false_or, Bool.false_and, Bool.and_false, Bool.or_true, Bool.true_or]
      simp (decide := true) only [hiw, Tryz.f89, rid, kl89_3, kl89_6, kl89_9, dp89_14, ↓sBp, sBq, List.all_cons, List.all_nil, List.map_cons, List.map_nil, D.shape, Sh.sub, Sh.size, List.getElem?_cons_zero, List.getElem?_cons_succ, Option.bind_some, Option.bind_none, Option.getD_some, Option.getD_none, V.keysIn, V.kill, V.has, decide_eq_true_eq, beq_iff_eq, bne_iff_ne, ne_eq, Bool.not_eq_true', Bool.and_true, Bool.and_self, Bool.true_and, if_true, if_false, reduceIte, Bool.false_eq_true, decide_true, decide_false, beq_self_eq_true, Bool.not_true, Bool.not_false, true_and, and_true, and_self, List.append_assoc, List.nil_append, List.cons_append, Int.toNat_natCast, ck, Int.cast_ofNat_Int, Int.reduceToNat, bne_self_eq_false, Bool.or_false, Bool.false_or, Bool.false_and, Bool.and_false, Bool.or_true, Bool.true_or]
    have ee : nearTo k r skip (listTo up 16).length = near k r skip := by unfold near; rw [ku]
    rw [ee]
    generalize near k r skip = s at hz
    simp (decide := true) only [Int.lt_irrefl, hz, Tryz.f89, rid, kl89_3, kl89_6, kl89_9, dp89_14, ↓sBp, sBq, List.all_cons, List.all_nil, List.map_cons, List.map_nil, D.shape, Sh.sub, Sh.size, List.getElem?_cons_zero, List.getElem?_cons_succ, Option.bind_some, Option.bind_none, Option.getD_some, Option.getD_none, V.keysIn, V.kill, V.has, decide_eq_true_eq, beq_iff_eq, bne_iff_ne, ne_eq, Bool.not_eq_true', Bool.and_true, Bool.and_self, Bool.true_and, if_true, if_false, reduceIte, Bool.false_eq_true, decide_true, decide_false, beq_self_eq_true, Bool.not_true, Bool.not_false, true_and, and_true, and_self, List.append_assoc, List.nil_append, List.cons_append, Int.toNat_natCast, ck, Int.cast_ofNat_Int, Int.reduceToNat, bne_self_eq_false, Bool.or_false, Bool.false_or, Bool.false_and, Bool.and_false, Bool.or_true, Bool.true_or]
end Go.Proofs.YtjceimcepogkaaaGreatDoor.Ev
