/- What the functions of walk compute: hops, children, what is below, where two meet, the order, the leaves; the document's ways back. -/
import Derived.Test.YtfbaikkadndckaaWk
namespace Go.Proofs.Ytfbaikkadndckaa.Ev
open Go
attribute [local congr] ob_congr sq_congr cd_congr ite_congr1 iter_congr it1_congr jumps_congr
set_option maxRecDepth 100000
set_option linter.unusedSimpArgs false
set_option linter.unusedVariables false


noncomputable def hopsF (d p : Nat → Int) (root j : Int) : Int := ((backL d p root j).length : Int) - 1
theorem hops_wrap (d p : Nat → Int) (root j : Int) : IntKind.i64.wrap (((backL d p root j).length : Int) - 1) = hopsF d p root j := by
  have := backL_len d p root j
  unfold hopsF; exact wrap_id ⟨by omega, by omega⟩
theorem backOk_iff (d p : Nat → Int) (root j : Int) : backOk d p root j = true ↔ backL d p root j ≠ [] := by
  unfold backOk
  rw [decide_eq_true_iff, ← List.length_pos_iff]
  omega
theorem hops_ev (k : Nat) (d p : Nat → Int) (root j : Int) : evF Try.prog env xt (k+4) 137 [.d (treeD d p), .d (.s (.int .i64 (root))), .d (.s (.int .i64 (j)))] = some (.d (.s (.int .i64 (hopsF d p root j)))) := by
  rw [evF_eq Try.func137 (show Try.f137.body = some _ from rfl) rfl rfl (by show 3 ≤ 19; decide)]
  simp (decide := true) only [back_ev, ints_length, hops_wrap, Try.f137, rid, ↓sq_normal, sq_normal, ↓sq_exit, sq_exit, ↓sq_goto, sq_goto, ↓sq_ret, sq_ret, ↓sq_none, sq_none, ↓sq_ite, sq_ite, ↓bkx_normal, bkx_normal, ↓bkx_exit, bkx_exit, ↓bkx_goto, bkx_goto, ↓bkx_ret, bkx_ret, ↓bkx_none, bkx_none, ↓bkx_ite, bkx_ite, ↓cd_bool, cd_bool, ↓ob_some', ob_some', ↓ob_none', ob_none', ↓fin_some, fin_some, ↓it1_normal, it1_normal, ↓it1_exit, it1_exit, ↓it1_goto, it1_goto, ↓it1_ret, it1_ret, ↓it1_ite, it1_ite, ↓cdb_none, cdb_none, ↓cdb_some, cdb_some, fgt_eq, ↓evC_skip, ↓evC_region, ↓evC_regionD, ↓evC_seq, ↓evC_cond, ↓evC_block, ↓evC_exit, ↓evC_ret, ↓evC_label, ↓evC_goto, ↓evOps_nil, ↓evOps_cons, ↓evG_plain, ↓evG_guard, ↓evO_store, ↓evO_append, ↓fin_ob, ↓fin_pure1, ↓evO_move, ↓evO_assign, ↓evO_pick, ↓evO_box, ↓evO_alloc, ↓evO_load, ↓evO_indexAddr, ↓evO_fieldAddr, ↓evO_index, ↓evO_field, ↓evO_extract, ↓evO_build, ↓evO_buildSlice, ↓evO_binOp, ↓evO_unOp, ↓evO_convert, ↓evO_len, ↓evO_max, ↓evO_min, ↓evO_call, ↓evO_callT, callF_eq, listV_nil, listV_cons, ↓evO_func, evFunc_eq, capL_nil, capL_cons, capV_ptr, capV_ro, capV_d, snap_d, ↓evO_make, evMake_eq, retF_clos0, retF_clos1, snapL_nil, snapL_cons, snap_ptr, snap_ro, snap_tg, callee_clos, argV_clos, resV_clos0, resV_clos1, keyNe_d, keyNe_sl, keyNe_clos, evConv_sl, onString_string, evLen_str, evIndex_str, evBin_eqS, evBin_neS, rvV_clos, ↓evO_rev, rvF_is, rvb_some, rvb_none, ↓evRev_eq, rvV_d, rvV_ptr, rvV_nil, rvV_ro, rvV_tg, rvV_tcons, rvV_tnil, rvV_undef, rvV_junk, ↓St.app_none, ↓St.app_some, ↓St.app_new, ↓fresh_none, ↓fresh_some, ↓upd_app, ↓tab_nil, ↓tab_cons, ↓frame_nil, ↓frame_cons, forget_eq, ↓opd_tmp, ↓opd_int, ↓opd_bool, ↓opd_str, ↓opd_float, ↓opd_func, ↓opd_nil, evMove_tmp, evMove_int, evMove_bool, evMove_str, evMove_float, evMove_func, evMove_nil, ↓args_nil, ↓args_cons, List.all_cons, List.all_nil, List.map_cons, List.map_nil, ↓evC_loop, clearD_nil, clearD_cons0, clearD_cons1, ob_ite, evGd_true, evGd_false, retF_d, retF_sl, retF_nil, retF_cons, retT_cons, callee_func, V.dat_d, argV_d, argV_sl, ret1_d, ret1_sl, retT_nil, nthV_zero, nthV_succ, evLoad_ptr, evLoad_ep, evIndexAddr_ptr, evIndexAddr_sl, evIndexAddr_ep, evFieldAddr_ptr, evFieldAddr_ep, evIndex_arr, evField_d, evLen_sl, evConv_int, evUn_not, evPick_bool, evMax_int, evMin_int, gdB_true, gdB_false, gdB_undef, evStore_ptr, evBin_add, evBin_sub, evBin_mul, evBin_and, evBin_or, evBin_xor, evBin_andNot, evBin_eql, evBin_neq, evBin_lss, evBin_leq, evBin_gtr, evBin_geq, evBin_shr, evBin_shl, D.get_nil, D.get_arr, D.get_cons0, D.get_consS, D.set_nil, D.set_cons0, D.set_consS, D.shape, Sh.sub, Sh.size, List.getElem?_cons_zero, List.getElem?_cons_succ, Option.bind_some, Option.bind_none, Option.getD_some, Option.getD_none, V.keysIn, V.kill, V.has, decide_eq_true_eq, beq_iff_eq, bne_iff_ne, ne_eq, Bool.not_eq_true', Bool.and_true, Bool.and_self, Bool.true_and, if_true, if_false, reduceIte, Bool.false_eq_true, decide_true, decide_false, beq_self_eq_true, Bool.not_true, Bool.not_false, true_and, and_true, and_self, List.append_assoc, List.nil_append, List.cons_append, evBin_eqA, evBin_neA, evBin_eqC, evBin_neC, Int.toNat_natCast, ck, D.set_arr', setN_int, Int.cast_ofNat_Int, Int.reduceToNat, bne_self_eq_false, Bool.or_false, Bool.false_or, Bool.false_and, Bool.and_false, loopB_eq, onBox_box, onBox_row, onArr_arr, onSlice_slice, onStr_str, onInt_int, dstAt_zero, dstAt_succ, gdAt_some, resX_normal, resX_ret, resF_one, resF_two, resF_nil, resL_nil, resL_cons, res1_tmp, res1_cell, resV_d, resV_nil, resV_tg, enter_eq, toList_lit, ↓onBox_box, ↓onArr_arr, ↓onSlice_slice, ↓onStr_str, ↓onInt_int, ↓gdAt_some, onAgg_arr, onAgg_str, evBuild_eq, evBuildSlice_eq, evAppend_tg, evAppend_nil, fillD_nil, fillD_cons, fillL_nil, fillL_cons, onBool_bool, evBin_eqB, evBin_neB, evBin_rem, evBin_quo, ↓evC_scope, ↓jumps_normal, jumps_normal, ↓jumps_exit, jumps_exit, ↓jumps_ret, jumps_ret, jumps_ite, hasLab_seq, hasLab_label, hasLab_region, hasLab_cond, hasLab_block, hasLab_loop, hasLab_scope, hasLab_skip, hasLab_ret, hasLab_goto, hasLab_exit, ↓evL_seq, ↓evL_label, Bool.or_true, Bool.true_or, joinB_nn, joinB_rn, joinB_nr, ↓dpq_nil, dpq_nil, ↓dpq_cons, dpq_cons, keyNe_ptr, keyNe_ep, keyNe_undef, ty2, ty3, ty4, ty5, ty6, ty7, ty8, ty9, ty10, ty11, ty12, ty13, ty14, ty21, ty22, ty23, ty24, ty25, ty26, ty27, ty28, ty29, ty30, ty31, ty32, ty33, ty34, ty35, ty36, ty37, ty39, ty46, ty47, ty64, ty67, ty68, ty73, ty78, ty80, ty81, ty86, ty87, ty88, ty89, ty90, ty91, ty92, ty93, ty94, ty95, ty96, ty98, ty99, ty100, ty101, ty103, ty104, ty105, ty109, ty110, ty111, ty112, ty113, ty114, ty115, ty116, ty117, ty122, ty126, ty148, ty185, ty192, ty199, ty215, ty216, ty219, ty220, ty223, ty224, ty225, ty226]

def childC (d p : Nat → Int) (n : Int) (k : Nat) : Bool := right n && ((k : Int) != n && (p k == n && d k != 4294967295))
def childF (d p : Nat → Int) (n : Int) : Int := setOf (childC d p n) 16
theorem setOf_none {c : Nat → Bool} (h : ∀ k, c k = false) : ∀ n, setOf c n = 0
  | 0 => rfl
  | n + 1 => by
    show (if c n = true then withN (setOf c n) n else setOf c n) = 0
    rw [h n]; simpa using setOf_none h n


noncomputable def belowC (d p : Nat → Int) (root n : Int) (k : Nat) : Bool := decide (n ∈ backL d p root k)
noncomputable def belowF (d p : Nat → Int) (root n : Int) : Int := setOf (belowC d p root n) 16
theorem back_small (d p : Nat → Int) (root j : Int) : (backL d p root j).length < 1000000 := Nat.lt_of_le_of_lt (backL_len d p root j) (by omega)
end Go.Proofs.Ytfbaikkadndckaa.Ev
