/- NodesBack: what is written is read, and what is read is written so; with a node, and without it, a set is as it was: the statement. -/
import Derived.Test.YthpccjgpbcginaaNb
import Derived.Test.YthpccjgpbcginaaXo
import Derived.Test.YthpccjgpbcginaaEvF
import Derived.Test.YthpccjgpbcginaaFacts
import Derived.Test.YthpccjgpbcginaaRows
import Derived.ProofKit
import Derived.OpenShut
namespace Go.Proofs.Ythpccjgpbcginaa.Ev
open Go
attribute [local congr] ob_congr sq_congr cd_congr ite_congr1 iter_congr it1_congr jumps_congr
set_option maxRecDepth 100000
set_option linter.unusedSimpArgs false
set_option linter.unusedVariables false
theorem parse_ev (K : Nat) (b : ByteArray) : evF Try.prog env xt (K+1) 39 [.d (.s (.string b))] = some (.tcons (.d (dI (parseF b).1)) (.tcons (.d (dI (parseF b).2)) .tnil)) := by
  have h : xt 39 [.d (.s (.string b))] = some (.tcons (.d (dI (parseF b).1)) (.tcons (.d (dI (parseF b).2)) .tnil)) := by
    rw [xt_pa rfl rfl]; rfl
  unfold evF
  rw [h]
theorem awake03_ev : evF Try.prog env xt 29 38 [] = some (.d (.s (.bool (true)))) := by kernel_rfl
theorem nodesBack_long (s n : Int) (b : ByteArray) (h : 300 < b.size) : evF Try.prog env xt (30) 7 [.d (.s (.int .i64 (s))), .d (.s (.int .i64 (n))), .d (.s (.string b))] = some (.d (.s (.bool (true)))) := by
  rw [evF_eq Try.func7 (show Try.f7.body = some _ from rfl) rfl rfl (by show 3 ≤ 98; decide)]
  have awk := awake03_ev
  have h' : (300 : Int) < (b.size : Int) := by omega
  simp (decide := true) only [h', awk, Try.f7, rid, ↓sq_normal, sq_normal, ↓sq_exit, sq_exit, ↓sq_goto, sq_goto, ↓sq_ret, sq_ret, ↓sq_none, sq_none, ↓sq_ite, sq_ite, ↓bkx_normal, bkx_normal, ↓bkx_exit, bkx_exit, ↓bkx_goto, bkx_goto, ↓bkx_ret, bkx_ret, ↓bkx_none, bkx_none, ↓bkx_ite, bkx_ite, ↓cd_bool, cd_bool, ↓ob_some', ob_some', ↓ob_none', ob_none', ↓fin_some, fin_some, ↓it1_normal, it1_normal, ↓it1_exit, it1_exit, ↓it1_goto, it1_goto, ↓it1_ret, it1_ret, ↓it1_ite, it1_ite, ↓cdb_none, cdb_none, ↓cdb_some, cdb_some, fgt_eq, ↓evC_skip, ↓evC_region, ↓evC_regionD, ↓evC_seq, ↓evC_cond, ↓evC_block, ↓evC_exit, ↓evC_ret, ↓evC_label, ↓evC_goto, ↓evOps_nil, ↓evOps_cons, ↓evG_plain, ↓evG_guard, ↓evO_store, ↓evO_append, ↓fin_ob, ↓fin_pure1, ↓evO_move, ↓evO_assign, ↓evO_pick, ↓evO_box, ↓evO_alloc, ↓evO_load, ↓evO_indexAddr, ↓evO_fieldAddr, ↓evO_index, ↓evO_field, ↓evO_extract, ↓evO_build, ↓evO_buildSlice, ↓evO_binOp, ↓evO_unOp, ↓evO_convert, ↓evO_len, ↓evO_max, ↓evO_min, ↓evO_call, ↓evO_callT, callF_eq, listV_nil, listV_cons, ↓evO_func, evFunc_eq, capL_nil, capL_cons, capV_ptr, capV_ro, capV_d, snap_d, ↓evO_make, evMake_eq, retF_clos0, retF_clos1, snapL_nil, snapL_cons, snap_ptr, snap_ro, snap_tg, callee_clos, argV_clos, resV_clos0, resV_clos1, keyNe_d, keyNe_sl, keyNe_clos, evConv_sl, onString_string, evLen_str, evIndex_str, evBin_eqS, evBin_neS, rvV_clos, ↓evO_rev, rvF_is, rvb_some, rvb_none, ↓evRev_eq, rvV_d, rvV_ptr, rvV_nil, rvV_ro, rvV_tg, rvV_tcons, rvV_tnil, rvV_undef, rvV_junk, ↓St.app_none, ↓St.app_some, ↓St.app_new, ↓fresh_none, ↓fresh_some, ↓upd_app, ↓tab_nil, ↓tab_cons, ↓frame_nil, ↓frame_cons, forget_eq, ↓opd_tmp, ↓opd_int, ↓opd_bool, ↓opd_str, ↓opd_float, ↓opd_func, ↓opd_nil, evMove_tmp, evMove_int, evMove_bool, evMove_str, evMove_float, evMove_func, evMove_nil, ↓args_nil, ↓args_cons, List.all_cons, List.all_nil, List.map_cons, List.map_nil, ↓evC_loop, clearD_nil, clearD_cons0, clearD_cons1, ob_ite, evGd_true, evGd_false, retF_d, retF_sl, retF_nil, retF_cons, retT_cons, callee_func, V.dat_d, argV_d, argV_sl, ret1_d, ret1_sl, retT_nil, nthV_zero, nthV_succ, evLoad_ptr, evLoad_ep, evIndexAddr_ptr, evIndexAddr_sl, evIndexAddr_ep, evFieldAddr_ptr, evFieldAddr_ep, evIndex_arr, evField_d, evLen_sl, evConv_int, evUn_not, evPick_bool, evMax_int, evMin_int, gdB_true, gdB_false, gdB_undef, evStore_ptr, evBin_add, evBin_sub, evBin_mul, evBin_and, evBin_or, evBin_xor, evBin_andNot, evBin_eql, evBin_neq, evBin_lss, evBin_leq, evBin_gtr, evBin_geq, evBin_shr, evBin_shl, D.get_nil, D.get_arr, D.get_cons0, D.get_consS, D.set_nil, D.set_cons0, D.set_consS, D.shape, Sh.sub, Sh.size, List.getElem?_cons_zero, List.getElem?_cons_succ, Option.bind_some, Option.bind_none, Option.getD_some, Option.getD_none, V.keysIn, V.kill, V.has, decide_eq_true_eq, beq_iff_eq, bne_iff_ne, ne_eq, Bool.not_eq_true', Bool.and_true, Bool.and_self, Bool.true_and, if_true, if_false, reduceIte, Bool.false_eq_true, decide_true, decide_false, beq_self_eq_true, Bool.not_true, Bool.not_false, true_and, and_true, and_self, List.append_assoc, List.nil_append, List.cons_append, evBin_eqA, evBin_neA, evBin_eqC, evBin_neC, Int.toNat_natCast, ck, D.set_arr', setN_int, Int.cast_ofNat_Int, Int.reduceToNat, bne_self_eq_false, Bool.or_false, Bool.false_or, Bool.false_and, Bool.and_false, loopB_eq, onBox_box, onBox_row, onArr_arr, onSlice_slice, onStr_str, onInt_int, dstAt_zero, dstAt_succ, gdAt_some, resX_normal, resX_ret, resF_one, resF_two, resF_nil, resL_nil, resL_cons, res1_tmp, res1_cell, resV_d, resV_nil, resV_tg, enter_eq, toList_lit, ↓onBox_box, ↓onArr_arr, ↓onSlice_slice, ↓onStr_str, ↓onInt_int, ↓gdAt_some, onAgg_arr, onAgg_str, evBuild_eq, evBuildSlice_eq, evAppend_tg, evAppend_nil, fillD_nil, fillD_cons, fillL_nil, fillL_cons, onBool_bool, evBin_eqB, evBin_neB, evBin_rem, evBin_quo, ↓evC_scope, ↓jumps_normal, jumps_normal, ↓jumps_exit, jumps_exit, ↓jumps_ret, jumps_ret, jumps_ite, hasLab_seq, hasLab_label, hasLab_region, hasLab_cond, hasLab_block, hasLab_loop, hasLab_scope, hasLab_skip, hasLab_ret, hasLab_goto, hasLab_exit, ↓evL_seq, ↓evL_label, Bool.or_true, Bool.true_or, joinB_nn, joinB_rn, joinB_nr, ↓dpq_nil, dpq_nil, ↓dpq_cons, dpq_cons, keyNe_ptr, keyNe_ep, keyNe_undef, ty2, ty3, ty4, ty5, ty6, ty7, ty8, ty9, ty10, ty11, ty12, ty13, ty14, ty21, ty22, ty23, ty24, ty31, ty32, ty33, ty34, ty36, ty41, ty43, ty44, ty45, ty46, ty47, ty48, ty56, ty74, ty75, ty84, ty85, ty86, ty87, ty91, ty95, ty99, ty113, ty114, ty117, ty118]
theorem countN_ev (k : Nat) {s : Int} (hs : inI s) : evF Try.prog env xt (k+4) 41 [.d (.s (.int .i64 (s)))] = some (.d (.s (.int .i64 (countF s)))) := count_ev (k+1) hs
set_option maxHeartbeats 4000000 in
theorem nodesBack_ev (s n : Int) (hs : inI s) (b : ByteArray) (m : Nat) (hm : m < 16) (hn : IntKind.i64.wrap ((IntKind.u64.wrap n).tmod 16) = (m : Int)) (h : ¬ 300 < b.size) :
    evF Try.prog env xt (30) 7 [.d (.s (.int .i64 (s))), .d (.s (.int .i64 (n))), .d (.s (.string b))] = some (.d (.s (.bool (true)))) := by
  rw [evF_eq Try.func7 (show Try.f7.body = some _ from rfl) rfl rfl (by show 3 ≤ 98; decide)]
  have awk := awake03_ev
  have h' : ¬ (300 : Int) < (b.size : Int) := by omega
  have h16 : (16 : Int) ≠ 0 := by decide
  have t1 := fun K => text_ev K hs
  have p1 := parse_text s hs
  have p2 : ∀ x : Int, parseF b = (x, 0) → textF x = b ∧ 0 ≤ x ∧ x ≤ 65535 := fun x hx => text_parse b hx
  obtain ⟨w1, w2⟩ := back_with s hs hm
  obtain ⟨v1, v2⟩ := has_back s hs hm
  have cb := count_back s hs hm
  have c1 := fun K => countN_ev K (inI_withN hs (m : Int))
  have c2 := fun K => countN_ev K (inI_withoutN hs (m : Int))
  have bd := countF_bd (withoutN s (m : Int))
  have hw : IntKind.i64.wrap (countF (withoutN s (m : Int)) + 1) = countF (withoutN s (m : Int)) + 1 := wrap_id ⟨by omega, by omega⟩
  have e1 : (bits .and .i64 s 65535 != bits .and .i64 s 65535) = false := by simp
  have e2 : (withN s (m : Int) == withN s (m : Int)) = true := by simp
  have e3 : (withoutN s (m : Int) == withoutN s (m : Int)) = true := by simp
  have e4 : (countF (withoutN s (m : Int)) + 1 == countF (withoutN s (m : Int)) + 1) = true := by simp
  obtain ⟨x, f, hp⟩ : ∃ x f, parseF b = (x, f) := ⟨_, _, rfl⟩
  by_cases hf : f = 0
  · subst hf
    obtain ⟨q1, q2, q3⟩ := p2 x hp
    have hx : inI x := by unfold inI; omega
    have t2 := fun K => text_ev K hx
    have q4 : ¬ x < 0 := by omega
    have q5 : ¬ 65535 < x := by omega
    have q6 := beqB_refl b
    simp (decide := true) only [h', t1, parse_ev, p1, hp, e1, t2, q1, q4, q5, q6, h16, hn, with_ev, without_ev, has_ev, v1, v2, w1, w2, e2, e3, c1, c2, cb, hw, e4, awk, Try.f7, rid, ↓sq_normal, sq_normal, ↓sq_exit, sq_exit, ↓sq_goto, sq_goto, ↓sq_ret, sq_ret, ↓sq_none, sq_none, ↓sq_ite, sq_ite, ↓bkx_normal, bkx_normal, ↓bkx_exit, bkx_exit, ↓bkx_goto, bkx_goto, ↓bkx_ret, bkx_ret, ↓bkx_none, bkx_none, ↓bkx_ite, bkx_ite, ↓cd_bool, cd_bool, ↓ob_some', ob_some', ↓ob_none', ob_none', ↓fin_some, fin_some, ↓it1_normal, it1_normal, ↓it1_exit, it1_exit, ↓it1_goto, it1_goto, ↓it1_ret, it1_ret, ↓it1_ite, it1_ite, ↓cdb_none, cdb_none, ↓cdb_some, cdb_some, fgt_eq, ↓evC_skip, ↓evC_region, ↓evC_regionD, ↓evC_seq, ↓evC_cond, ↓evC_block, ↓evC_exit, ↓evC_ret, ↓evC_label, ↓evC_goto, ↓evOps_nil, ↓evOps_cons, ↓evG_plain, ↓evG_guard, ↓evO_store, ↓evO_append, ↓fin_ob, ↓fin_pure1, ↓evO_move, ↓evO_assign, ↓evO_pick, ↓evO_box, ↓evO_alloc, ↓evO_load, ↓evO_indexAddr, ↓evO_fieldAddr, ↓evO_index, ↓evO_field, ↓evO_extract, ↓evO_build, ↓evO_buildSlice, ↓evO_binOp, ↓evO_unOp, ↓evO_convert, ↓evO_len, ↓evO_max, ↓evO_min, ↓evO_call, ↓evO_callT, callF_eq, listV_nil, listV_cons, ↓evO_func, evFunc_eq, capL_nil, capL_cons, capV_ptr, capV_ro, capV_d, snap_d, ↓evO_make, evMake_eq, retF_clos0, retF_clos1, snapL_nil, snapL_cons, snap_ptr, snap_ro, snap_tg, callee_clos, argV_clos, resV_clos0, resV_clos1, keyNe_d, keyNe_sl, keyNe_clos, evConv_sl, onString_string, evLen_str, evIndex_str, evBin_eqS, evBin_neS, rvV_clos, ↓evO_rev, rvF_is, rvb_some, rvb_none, ↓evRev_eq, rvV_d, rvV_ptr, rvV_nil, rvV_ro, rvV_tg, rvV_tcons, rvV_tnil, rvV_undef, rvV_junk, ↓St.app_none, ↓St.app_some, ↓St.app_new, ↓fresh_none, ↓fresh_some, ↓upd_app, ↓tab_nil, ↓tab_cons, ↓frame_nil, ↓frame_cons, forget_eq, ↓opd_tmp, ↓opd_int, ↓opd_bool, ↓opd_str, ↓opd_float, ↓opd_func, ↓opd_nil, evMove_tmp, evMove_int, evMove_bool, evMove_str, evMove_float, evMove_func, evMove_nil, ↓args_nil, ↓args_cons, List.all_cons, List.all_nil, List.map_cons, List.map_nil, ↓evC_loop, clearD_nil, clearD_cons0, clearD_cons1, ob_ite, evGd_true, evGd_false, retF_d, retF_sl, retF_nil, retF_cons, retT_cons, callee_func, V.dat_d, argV_d, argV_sl, ret1_d, ret1_sl, retT_nil, nthV_zero, nthV_succ, evLoad_ptr, evLoad_ep, evIndexAddr_ptr, evIndexAddr_sl, evIndexAddr_ep, evFieldAddr_ptr, evFieldAddr_ep, evIndex_arr, evField_d, evLen_sl, evConv_int, evUn_not, evPick_bool, evMax_int, evMin_int, gdB_true, gdB_false, gdB_undef, evStore_ptr, evBin_add, evBin_sub, evBin_mul, evBin_and, evBin_or, evBin_xor, evBin_andNot, evBin_eql, evBin_neq, evBin_lss, evBin_leq, evBin_gtr, evBin_geq, evBin_shr, evBin_shl, D.get_nil, D.get_arr, D.get_cons0, D.get_consS, D.set_nil, D.set_cons0, D.set_consS, D.shape, Sh.sub, Sh.size, List.getElem?_cons_zero, List.getElem?_cons_succ, Option.bind_some, Option.bind_none, Option.getD_some, Option.getD_none, V.keysIn, V.kill, V.has, decide_eq_true_eq, beq_iff_eq, bne_iff_ne, ne_eq, Bool.not_eq_true', Bool.and_true, Bool.and_self, Bool.true_and, if_true, if_false, reduceIte, Bool.false_eq_true, decide_true, decide_false, beq_self_eq_true, Bool.not_true, Bool.not_false, true_and, and_true, and_self, List.append_assoc, List.nil_append, List.cons_append, evBin_eqA, evBin_neA, evBin_eqC, evBin_neC, Int.toNat_natCast, ck, D.set_arr', setN_int, Int.cast_ofNat_Int, Int.reduceToNat, bne_self_eq_false, Bool.or_false, Bool.false_or, Bool.false_and, Bool.and_false, loopB_eq, onBox_box, onBox_row, onArr_arr, onSlice_slice, onStr_str, onInt_int, dstAt_zero, dstAt_succ, gdAt_some, resX_normal, resX_ret, resF_one, resF_two, resF_nil, resL_nil, resL_cons, res1_tmp, res1_cell, resV_d, resV_nil, resV_tg, enter_eq, toList_lit, ↓onBox_box, ↓onArr_arr, ↓onSlice_slice, ↓onStr_str, ↓onInt_int, ↓gdAt_some, onAgg_arr, onAgg_str, evBuild_eq, evBuildSlice_eq, evAppend_tg, evAppend_nil, fillD_nil, fillD_cons, fillL_nil, fillL_cons, onBool_bool, evBin_eqB, evBin_neB, evBin_rem, evBin_quo, ↓evC_scope, ↓jumps_normal, jumps_normal, ↓jumps_exit, jumps_exit, ↓jumps_ret, jumps_ret, jumps_ite, hasLab_seq, hasLab_label, hasLab_region, hasLab_cond, hasLab_block, hasLab_loop, hasLab_scope, hasLab_skip, hasLab_ret, hasLab_goto, hasLab_exit, ↓evL_seq, ↓evL_label, Bool.or_true, Bool.true_or, joinB_nn, joinB_rn, joinB_nr, ↓dpq_nil, dpq_nil, ↓dpq_cons, dpq_cons, keyNe_ptr, keyNe_ep, keyNe_undef, ty2, ty3, ty4, ty5, ty6, ty7, ty8, ty9, ty10, ty11, ty12, ty13, ty14, ty21, ty22, ty23, ty24, ty31, ty32, ty33, ty34, ty36, ty41, ty43, ty44, ty45, ty46, ty47, ty48, ty56, ty74, ty75, ty84, ty85, ty86, ty87, ty91, ty95, ty99, ty113, ty114, ty117, ty118]
    try rfl
  · have hf : (f == 0) = false := by simpa using hf
    simp (decide := true) only [h', t1, parse_ev, p1, hp, e1, hf, h16, hn, with_ev, without_ev, has_ev, v1, v2, w1, w2, e2, e3, c1, c2, cb, hw, e4, awk, Try.f7, rid, ↓sq_normal, sq_normal, ↓sq_exit, sq_exit, ↓sq_goto, sq_goto, ↓sq_ret, sq_ret, ↓sq_none, sq_none, ↓sq_ite, sq_ite, ↓bkx_normal, bkx_normal, ↓bkx_exit, bkx_exit, ↓bkx_goto, bkx_goto, ↓bkx_ret, bkx_ret, ↓bkx_none, bkx_none, ↓bkx_ite, bkx_ite, ↓cd_bool, cd_bool, ↓ob_some', ob_some', ↓ob_none', ob_none', ↓fin_some, fin_some, ↓it1_normal, it1_normal, ↓it1_exit, it1_exit, ↓it1_goto, it1_goto, ↓it1_ret, it1_ret, ↓it1_ite, it1_ite, ↓cdb_none, cdb_none, ↓cdb_some, cdb_some, fgt_eq, ↓evC_skip, ↓evC_region, ↓evC_regionD, ↓evC_seq, ↓evC_cond, ↓evC_block, ↓evC_exit, ↓evC_ret, ↓evC_label, ↓evC_goto, ↓evOps_nil, ↓evOps_cons, ↓evG_plain, ↓evG_guard, ↓evO_store, ↓evO_append, ↓fin_ob, ↓fin_pure1, ↓evO_move, ↓evO_assign, ↓evO_pick, ↓evO_box, ↓evO_alloc, ↓evO_load, ↓evO_indexAddr, ↓evO_fieldAddr, ↓evO_index, ↓evO_field, ↓evO_extract, ↓evO_build, ↓evO_buildSlice, ↓evO_binOp, ↓evO_unOp, ↓evO_convert, ↓evO_len, ↓evO_max, ↓evO_min, ↓evO_call, ↓evO_callT, callF_eq, listV_nil, listV_cons, ↓evO_func, evFunc_eq, capL_nil, capL_cons, capV_ptr, capV_ro, capV_d, snap_d, ↓evO_make, evMake_eq, retF_clos0, retF_clos1, snapL_nil, snapL_cons, snap_ptr, snap_ro, snap_tg, callee_clos, argV_clos, resV_clos0, resV_clos1, keyNe_d, keyNe_sl, keyNe_clos, evConv_sl, onString_string, evLen_str, evIndex_str, evBin_eqS, evBin_neS, rvV_clos, ↓evO_rev, rvF_is, rvb_some, rvb_none, ↓evRev_eq, rvV_d, rvV_ptr, rvV_nil, rvV_ro, rvV_tg, rvV_tcons, rvV_tnil, rvV_undef, rvV_junk, ↓St.app_none, ↓St.app_some, ↓St.app_new, ↓fresh_none, ↓fresh_some, ↓upd_app, ↓tab_nil, ↓tab_cons, ↓frame_nil, ↓frame_cons, forget_eq, ↓opd_tmp, ↓opd_int, ↓opd_bool, ↓opd_str, ↓opd_float, ↓opd_func, ↓opd_nil, evMove_tmp, evMove_int, evMove_bool, evMove_str, evMove_float, evMove_func, evMove_nil, ↓args_nil, ↓args_cons, List.all_cons, List.all_nil, List.map_cons, List.map_nil, ↓evC_loop, clearD_nil, clearD_cons0, clearD_cons1, ob_ite, evGd_true, evGd_false, retF_d, retF_sl, retF_nil, retF_cons, retT_cons, callee_func, V.dat_d, argV_d, argV_sl, ret1_d, ret1_sl, retT_nil, nthV_zero, nthV_succ, evLoad_ptr, evLoad_ep, evIndexAddr_ptr, evIndexAddr_sl, evIndexAddr_ep, evFieldAddr_ptr, evFieldAddr_ep, evIndex_arr, evField_d, evLen_sl, evConv_int, evUn_not, evPick_bool, evMax_int, evMin_int, gdB_true, gdB_false, gdB_undef, evStore_ptr, evBin_add, evBin_sub, evBin_mul, evBin_and, evBin_or, evBin_xor, evBin_andNot, evBin_eql, evBin_neq, evBin_lss, evBin_leq, evBin_gtr, evBin_geq, evBin_shr, evBin_shl, D.get_nil, D.get_arr, D.get_cons0, D.get_consS, D.set_nil, D.set_cons0, D.set_consS, D.shape, Sh.sub, Sh.size, List.getElem?_cons_zero, List.getElem?_cons_succ, Option.bind_some, Option.bind_none, Option.getD_some, Option.getD_none, V.keysIn, V.kill, V.has, decide_eq_true_eq, beq_iff_eq, bne_iff_ne, ne_eq, Bool.not_eq_true', Bool.and_true, Bool.and_self, Bool.true_and, if_true, if_false, reduceIte, Bool.false_eq_true, decide_true, decide_false, beq_self_eq_true, Bool.not_true, Bool.not_false, true_and, and_true, and_self, List.append_assoc, List.nil_append, List.cons_append, evBin_eqA, evBin_neA, evBin_eqC, evBin_neC, Int.toNat_natCast, ck, D.set_arr', setN_int, Int.cast_ofNat_Int, Int.reduceToNat, bne_self_eq_false, Bool.or_false, Bool.false_or, Bool.false_and, Bool.and_false, loopB_eq, onBox_box, onBox_row, onArr_arr, onSlice_slice, onStr_str, onInt_int, dstAt_zero, dstAt_succ, gdAt_some, resX_normal, resX_ret, resF_one, resF_two, resF_nil, resL_nil, resL_cons, res1_tmp, res1_cell, resV_d, resV_nil, resV_tg, enter_eq, toList_lit, ↓onBox_box, ↓onArr_arr, ↓onSlice_slice, ↓onStr_str, ↓onInt_int, ↓gdAt_some, onAgg_arr, onAgg_str, evBuild_eq, evBuildSlice_eq, evAppend_tg, evAppend_nil, fillD_nil, fillD_cons, fillL_nil, fillL_cons, onBool_bool, evBin_eqB, evBin_neB, evBin_rem, evBin_quo, ↓evC_scope, ↓jumps_normal, jumps_normal, ↓jumps_exit, jumps_exit, ↓jumps_ret, jumps_ret, jumps_ite, hasLab_seq, hasLab_label, hasLab_region, hasLab_cond, hasLab_block, hasLab_loop, hasLab_scope, hasLab_skip, hasLab_ret, hasLab_goto, hasLab_exit, ↓evL_seq, ↓evL_label, Bool.or_true, Bool.true_or, joinB_nn, joinB_rn, joinB_nr, ↓dpq_nil, dpq_nil, ↓dpq_cons, dpq_cons, keyNe_ptr, keyNe_ep, keyNe_undef, ty2, ty3, ty4, ty5, ty6, ty7, ty8, ty9, ty10, ty11, ty12, ty13, ty14, ty21, ty22, ty23, ty24, ty31, ty32, ty33, ty34, ty36, ty41, ty43, ty44, ty45, ty46, ty47, ty48, ty56, ty74, ty75, ty84, ty85, ty86, ty87, ty91, ty95, ty99, ty113, ty114, ty117, ty118]
    try rfl
theorem rem16 {j : Int} (hj : inI j) : ∃ m : Nat, m < 16 ∧ IntKind.i64.wrap ((IntKind.u64.wrap j).tmod 16) = (m : Int) := by
  have e : IntKind.u64.wrap j = j % 18446744073709551616 := rfl
  rw [e]
  have h0 : 0 ≤ j % 18446744073709551616 := by omega
  rw [Int.tmod_eq_emod_of_nonneg h0]
  refine ⟨((j % 18446744073709551616) % 16).toNat, by omega, ?_⟩
  rw [IntWalk.i64_in _ (by omega)]; omega
def strOf : D → ByteArray
  | .s (.string b) => b
  | _ => ⟨#[]⟩
theorem of_str {x : D} (h : x.shape = .cell .string) : x = .s (.string (strOf x)) := by
  cases x with
  | s v => simp only [D.shape, Sh.cell.injEq] at h; cases v <;> simp [ck] at h; rfl
  | _ => simp [D.shape] at h
theorem nodesBack_data (x0 : D) (w0 : x0.WF) (s0 : x0.shape = cI) (f0 : x0.fits) (x1 : D) (w1 : x1.WF) (s1 : x1.shape = cI) (f1 : x1.fits) (x2 : D) (w2 : x2.WF) (s2 : x2.shape = .cell .string) (f2 : x2.fits) :
    evF Try.prog env xt (30) 7 [.d x0, .d x1, .d x2] = some (.d (.s (.bool (true)))) := by
  have i0 : inI (intOf x0) := by rw [of_cell s0] at f0; exact inI_of f0
  have i1 : inI (intOf x1) := by rw [of_cell s1] at f1; exact inI_of f1
  obtain ⟨m, hm, e⟩ := rem16 i1
  rw [of_cell s0, of_cell s1, of_str s2]
  by_cases h : 300 < (strOf x2).size
  · exact nodesBack_long _ _ _ h
  · exact nodesBack_ev _ _ i0 _ m hm e h
open Go.ChangeShapes Go.WideShapes Go.ChangeAt Go.RowKit
set_option maxRecDepth 100000
theorem own : ownKnob Try.prog.godebug = none := by kernel_rfl
theorem laidOut : laidOutB Try.prog = true := by kernel_rfl
theorem lifted (os : Os) (started : os.Started) (H : Type) (enc : TypeId × Value → H) :
    ReturnsInHanded {} Try.checked os 7 .any (Rows.nodesBackSpec.pre6 enc Try.prog Try.f7 Rows.nodesBackRow.domain false) (Rows.nodesBackSpec.post enc Try.prog Try.f7 false true false false) := by
  refine returnsInHanded_of_change (C := Try.checked) own started (by kernel_rfl) Try.func7
    (ChangeSpec.witness6 (enc := enc) (C := Try.checked) false ⟨#[], #[Z3.val, Z3.val, Z9.val], []⟩ 8 (by kernel_rfl) (by kernel_rfl) (by kernel_rfl) (by kernel_rfl)) ?_
  intro W base args ds gs before hval0 hW hcnd _
  have hval : ∀ (j : Nat) t v, Try.f7.params[j]? = some t → args[j]? = some v → Value.okWide Try.prog W .any base t v := hval0
  have hW' := hW
  obtain ⟨p, q, hA0, hV, rfl, hfz, hnd⟩ := hW
  have hA : DataW.TrodAll enc Try.prog W 0 (fun _ => true) true Try.f7.params.toList args.toList ds p := hA0
  rw [Try.params7] at hA hval
  obtain ⟨v0, vs0, d0, ds0, p0, q0, hargs, rfl, rfl, h0, r0⟩ := trodAll_cons hA
  obtain ⟨v1, vs1, d1, ds1, p1, q1, rfl, rfl, rfl, h1, r1⟩ := trodAll_cons r0
  obtain ⟨v2, vs2, d2, ds2, p2, q2, rfl, rfl, rfl, h2, r2⟩ := trodAll_cons r1
  obtain ⟨rfl, rfl, rfl⟩ := trodAll_nil r2
  obtain rfl : args = #[v0, v1, v2] := by cases args; simp_all
  obtain ⟨rfl, rfl⟩ := trodVars_none hV
  have k0 := h0
  have lt0 : ∀ x ∈ p0, x.block < W.heap.size := by obtain ⟨m, hm⟩ := k0; exact DataW.trod_lt m _ _ _ hm
  have k1 := h1
  have lt1 : ∀ x ∈ p1, x.block < W.heap.size := by obtain ⟨m, hm⟩ := k1; exact DataW.trod_lt m _ _ _ hm
  have k2 := h2
  have lt2 : ∀ x ∈ p2, x.block < W.heap.size := by obtain ⟨m, hm⟩ := k2; exact DataW.trod_lt m _ _ _ hm
  obtain ⟨x0, rfl, w0, s0, f0⟩ := open_data (d := 8) (sh := cI) (by kernel_rfl) (hval 0 3 v0 rfl rfl) h0
  obtain ⟨x1, rfl, w1, s1, f1⟩ := open_data (d := 8) (sh := cI) (by kernel_rfl) (hval 1 3 v1 rfl rfl) h1
  obtain ⟨x2, rfl, w2, s2, f2⟩ := open_data (d := 8) (sh := .cell .string) (by kernel_rfl) (hval 2 9 v2 rfl rfl) h2
  clear hA0 hval0
  refine ((evF_sound env_ok fns_ok (ext := xt) xt_ok 30 7 _ _ (nodesBack_data x0 w0 s0 f0 x1 w1 s1 f1 x2 w2 s2 f2)).run W [x0.val, x1.val, x2.val] ⟨⟨w0, rfl⟩, ⟨w1, rfl⟩, ⟨w2, rfl⟩, trivial⟩).mono fun e W' ⟨u, he, bel, hr⟩ => ?_
  obtain rfl : u = .bool true := hr.2
  subst he
  exact ⟨_, rfl, _, _, _, [], _, [], hW', trodAll_mk1 (shut_bool Try.underlying4 _), trodAll_cons_mk (Below.trod laidOut (by kernel_rfl) (of_decide_eq_true (by kernel_rfl)) k0 bel lt0) (trodAll_cons_mk (Below.trod laidOut (by kernel_rfl) (of_decide_eq_true (by kernel_rfl)) k1 bel lt1) (trodAll_cons_mk (Below.trod laidOut (by kernel_rfl) (of_decide_eq_true (by kernel_rfl)) k2 bel lt2) trodAll_mk0)), rfl, bel.frame _, fun h => by cases h⟩
theorem over : Rows.nodesBackRow.holds Try.pinned (OpenSpec.ofChange Rows.nodesBackSpec) :=
  OpenClaim.holds_of_wide 7 Try.f7 rfl rfl rfl rfl rfl rfl rfl ⟨rfl, rfl, rfl, rfl, rfl⟩ rfl rfl rfl rfl rfl (by kernel_rfl) Try.func7 (by kernel_rfl)
    (of_decide_eq_true (by kernel_rfl)) (by unfold Func.isWrapper; first | (rw [if_pos (by decide +kernel)]; kernel_rfl) | (rw [if_neg (by decide +kernel)]; exact ⟨rfl, rfl⟩))
    (fun os started H enc _ => lifted os started H enc)
theorem nodesBack_proved : Rows.NodesBackSaid := over
#print axioms nodesBack_proved
end Go.Proofs.Ythpccjgpbcginaa.Ev
