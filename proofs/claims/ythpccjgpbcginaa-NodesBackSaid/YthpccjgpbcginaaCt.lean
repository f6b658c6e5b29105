/- How many nodes a set has: the sum of its bits, as OnesCount64 makes it. -/
import Derived.Test.YthpccjgpbcginaaSa
namespace Go.Proofs.Ythpccjgpbcginaa.Ev
open Go
attribute [local congr] ob_congr sq_congr cd_congr ite_congr1 iter_congr it1_congr jumps_congr
set_option maxRecDepth 100000
set_option linter.unusedSimpArgs false
set_option linter.unusedVariables false

def s1 (x : Int) : Int := IntKind.u64.wrap (bits .and .u64 (x.fdiv (2 ^ min 1 IntKind.u64.bits)) 6148914691236517205 + bits .and .u64 x 6148914691236517205)
def s2 (x : Int) : Int := IntKind.u64.wrap (bits .and .u64 (x.fdiv (2 ^ min 2 IntKind.u64.bits)) 3689348814741910323 + bits .and .u64 x 3689348814741910323)
def s3 (x : Int) : Int := bits .and .u64 (IntKind.u64.wrap (x.fdiv (2 ^ min 4 IntKind.u64.bits) + x)) 1085102592571150095
def s4 (k : Nat) (x : Int) : Int := IntKind.u64.wrap (x + x.fdiv (2 ^ min k IntKind.u64.bits))
def s5 (x : Int) : Int := bits .and .i64 (IntKind.i64.wrap x) 127
def onesI (y : Int) : Int := s5 (s4 32 (s4 16 (s4 8 (s3 (s2 (s1 y))))))
theorem ones64_ev (k : Nat) (y : Int) : evF Try.prog env xt (k+1) 101 [.d (.s (.int .u64 y))] = some (.d (.s (.int .i64 (onesI y)))) := by
  rw [evF_eq Try.func101 (show Try.f101.body = some _ from rfl) rfl rfl (by show 1 ≤ 35; decide)]
  simp (decide := true) only [Try.f101, rid, ↓sq_normal, sq_normal, ↓sq_exit, sq_exit, ↓sq_goto, sq_goto, ↓sq_ret, sq_ret, ↓sq_none, sq_none, ↓sq_ite, sq_ite, ↓bkx_normal, bkx_normal, ↓bkx_exit, bkx_exit, ↓bkx_goto, bkx_goto, ↓bkx_ret, bkx_ret, ↓bkx_none, bkx_none, ↓bkx_ite, bkx_ite, ↓cd_bool, cd_bool, ↓ob_some', ob_some', ↓ob_none', ob_none', ↓fin_some, fin_some, ↓it1_normal, it1_normal, ↓it1_exit, it1_exit, ↓it1_goto, it1_goto, ↓it1_ret, it1_ret, ↓it1_ite, it1_ite, ↓cdb_none, cdb_none, ↓cdb_some, cdb_some, fgt_eq, ↓evC_skip, ↓evC_region, ↓evC_regionD, ↓evC_seq, ↓evC_cond, ↓evC_block, ↓evC_exit, ↓evC_ret, ↓evC_label, ↓evC_goto, ↓evOps_nil, ↓evOps_cons, ↓evG_plain, ↓evG_guard, ↓evO_store, ↓evO_append, ↓fin_ob, ↓fin_pure1, ↓evO_move, ↓evO_assign, ↓evO_pick, ↓evO_box, ↓evO_alloc, ↓evO_load, ↓evO_indexAddr, ↓evO_fieldAddr, ↓evO_index, ↓evO_field, ↓evO_extract, ↓evO_build, ↓evO_buildSlice, ↓evO_binOp, ↓evO_unOp, ↓evO_convert, ↓evO_len, ↓evO_max, ↓evO_min, ↓evO_call, ↓evO_callT, callF_eq, listV_nil, listV_cons, ↓evO_func, evFunc_eq, capL_nil, capL_cons, capV_ptr, capV_ro, capV_d, snap_d, ↓evO_make, evMake_eq, retF_clos0, retF_clos1, snapL_nil, snapL_cons, snap_ptr, snap_ro, snap_tg, callee_clos, argV_clos, resV_clos0, resV_clos1, keyNe_d, keyNe_sl, keyNe_clos, evConv_sl, onString_string, evLen_str, evIndex_str, evBin_eqS, evBin_neS, rvV_clos, ↓evO_rev, rvF_is, rvb_some, rvb_none, ↓evRev_eq, rvV_d, rvV_ptr, rvV_nil, rvV_ro, rvV_tg, rvV_tcons, rvV_tnil, rvV_undef, rvV_junk, ↓St.app_none, ↓St.app_some, ↓St.app_new, ↓fresh_none, ↓fresh_some, ↓upd_app, ↓tab_nil, ↓tab_cons, ↓frame_nil, ↓frame_cons, forget_eq, ↓opd_tmp, ↓opd_int, ↓opd_bool, ↓opd_str, ↓opd_float, ↓opd_func, ↓opd_nil, evMove_tmp, evMove_int, evMove_bool, evMove_str, evMove_float, evMove_func, evMove_nil, ↓args_nil, ↓args_cons, List.all_cons, List.all_nil, List.map_cons, List.map_nil, ↓evC_loop, clearD_nil, clearD_cons0, clearD_cons1, ob_ite, evGd_true, evGd_false, retF_d, retF_sl, retF_nil, retF_cons, retT_cons, callee_func, V.dat_d, argV_d, argV_sl, ret1_d, ret1_sl, retT_nil, nthV_zero, nthV_succ, evLoad_ptr, evLoad_ep, evIndexAddr_ptr, evIndexAddr_sl, evIndexAddr_ep, evFieldAddr_ptr, evFieldAddr_ep, evIndex_arr, evField_d, evLen_sl, evConv_int, evUn_not, evPick_bool, evMax_int, evMin_int, gdB_true, gdB_false, gdB_undef, evStore_ptr, evBin_add, evBin_sub, evBin_mul, evBin_and, evBin_or, evBin_xor, evBin_andNot, evBin_eql, evBin_neq, evBin_lss, evBin_leq, evBin_gtr, evBin_geq, evBin_shr, evBin_shl, D.get_nil, D.get_arr, D.get_cons0, D.get_consS, D.set_nil, D.set_cons0, D.set_consS, D.shape, Sh.sub, Sh.size, List.getElem?_cons_zero, List.getElem?_cons_succ, Option.bind_some, Option.bind_none, Option.getD_some, Option.getD_none, V.keysIn, V.kill, V.has, decide_eq_true_eq, beq_iff_eq, bne_iff_ne, ne_eq, Bool.not_eq_true', Bool.and_true, Bool.and_self, Bool.true_and, if_true, if_false, reduceIte, Bool.false_eq_true, decide_true, decide_false, beq_self_eq_true, Bool.not_true, Bool.not_false, true_and, and_true, and_self, List.append_assoc, List.nil_append, List.cons_append, evBin_eqA, evBin_neA, evBin_eqC, evBin_neC, Int.toNat_natCast, ck, D.set_arr', setN_int, Int.cast_ofNat_Int, Int.reduceToNat, bne_self_eq_false, Bool.or_false, Bool.false_or, Bool.false_and, Bool.and_false, loopB_eq, onBox_box, onBox_row, onArr_arr, onSlice_slice, onStr_str, onInt_int, dstAt_zero, dstAt_succ, gdAt_some, resX_normal, resX_ret, resF_one, resF_two, resF_nil, resL_nil, resL_cons, res1_tmp, res1_cell, resV_d, resV_nil, resV_tg, enter_eq, toList_lit, ↓onBox_box, ↓onArr_arr, ↓onSlice_slice, ↓onStr_str, ↓onInt_int, ↓gdAt_some, onAgg_arr, onAgg_str, evBuild_eq, evBuildSlice_eq, evAppend_tg, evAppend_nil, fillD_nil, fillD_cons, fillL_nil, fillL_cons, onBool_bool, evBin_eqB, evBin_neB, evBin_rem, evBin_quo, ↓evC_scope, ↓jumps_normal, jumps_normal, ↓jumps_exit, jumps_exit, ↓jumps_ret, jumps_ret, jumps_ite, hasLab_seq, hasLab_label, hasLab_region, hasLab_cond, hasLab_block, hasLab_loop, hasLab_scope, hasLab_skip, hasLab_ret, hasLab_goto, hasLab_exit, ↓evL_seq, ↓evL_label, Bool.or_true, Bool.true_or, joinB_nn, joinB_rn, joinB_nr, ↓dpq_nil, dpq_nil, ↓dpq_cons, dpq_cons, keyNe_ptr, keyNe_ep, keyNe_undef, ty2, ty3, ty4, ty5, ty6, ty7, ty8, ty9, ty10, ty11, ty12, ty13, ty14, ty21, ty22, ty23, ty24, ty31, ty32, ty33, ty34, ty36, ty41, ty43, ty44, ty45, ty46, ty47, ty48, ty56, ty74, ty75, ty84, ty85, ty86, ty87, ty91, ty95, ty99, ty113, ty114, ty117, ty118]
  rfl
theorem ones_ev (k : Nat) (y : Int) : evF Try.prog env xt (k+2) 85 [.d (.s (.int .u64 y))] = some (.d (.s (.int .i64 (onesI y)))) := by
  rw [evF_eq Try.func85 (show Try.f85.body = some _ from rfl) rfl rfl (by show 1 ≤ 8; decide)]
  simp (decide := true) only [ones64_ev, Try.f85, rid, ↓sq_normal, sq_normal, ↓sq_exit, sq_exit, ↓sq_goto, sq_goto, ↓sq_ret, sq_ret, ↓sq_none, sq_none, ↓sq_ite, sq_ite, ↓bkx_normal, bkx_normal, ↓bkx_exit, bkx_exit, ↓bkx_goto, bkx_goto, ↓bkx_ret, bkx_ret, ↓bkx_none, bkx_none, ↓bkx_ite, bkx_ite, ↓cd_bool, cd_bool, ↓ob_some', ob_some', ↓ob_none', ob_none', ↓fin_some, fin_some, ↓it1_normal, it1_normal, ↓it1_exit, it1_exit, ↓it1_goto, it1_goto, ↓it1_ret, it1_ret, ↓it1_ite, it1_ite, ↓cdb_none, cdb_none, ↓cdb_some, cdb_some, fgt_eq, ↓evC_skip, ↓evC_region, ↓evC_regionD, ↓evC_seq, ↓evC_cond, ↓evC_block, ↓evC_exit, ↓evC_ret, ↓evC_label, ↓evC_goto, ↓evOps_nil, ↓evOps_cons, ↓evG_plain, ↓evG_guard, ↓evO_store, ↓evO_append, ↓fin_ob, ↓fin_pure1, ↓evO_move, ↓evO_assign, ↓evO_pick, ↓evO_box, ↓evO_alloc, ↓evO_load, ↓evO_indexAddr, ↓evO_fieldAddr, ↓evO_index, ↓evO_field, ↓evO_extract, ↓evO_build, ↓evO_buildSlice, ↓evO_binOp, ↓evO_unOp, ↓evO_convert, ↓evO_len, ↓evO_max, ↓evO_min, ↓evO_call, ↓evO_callT, callF_eq, listV_nil, listV_cons, ↓evO_func, evFunc_eq, capL_nil, capL_cons, capV_ptr, capV_ro, capV_d, snap_d, ↓evO_make, evMake_eq, retF_clos0, retF_clos1, snapL_nil, snapL_cons, snap_ptr, snap_ro, snap_tg, callee_clos, argV_clos, resV_clos0, resV_clos1, keyNe_d, keyNe_sl, keyNe_clos, evConv_sl, onString_string, evLen_str, evIndex_str, evBin_eqS, evBin_neS, rvV_clos, ↓evO_rev, rvF_is, rvb_some, rvb_none, ↓evRev_eq, rvV_d, rvV_ptr, rvV_nil, rvV_ro, rvV_tg, rvV_tcons, rvV_tnil, rvV_undef, rvV_junk, ↓St.app_none, ↓St.app_some, ↓St.app_new, ↓fresh_none, ↓fresh_some, ↓upd_app, ↓tab_nil, ↓tab_cons, ↓frame_nil, ↓frame_cons, forget_eq, ↓opd_tmp, ↓opd_int, ↓opd_bool, ↓opd_str, ↓opd_float, ↓opd_func, ↓opd_nil, evMove_tmp, evMove_int, evMove_bool, evMove_str, evMove_float, evMove_func, evMove_nil, ↓args_nil, ↓args_cons, List.all_cons, List.all_nil, List.map_cons, List.map_nil, ↓evC_loop, clearD_nil, clearD_cons0, clearD_cons1, ob_ite, evGd_true, evGd_false, retF_d, retF_sl, retF_nil, retF_cons, retT_cons, callee_func, V.dat_d, argV_d, argV_sl, ret1_d, ret1_sl, retT_nil, nthV_zero, nthV_succ, evLoad_ptr, evLoad_ep, evIndexAddr_ptr, evIndexAddr_sl, evIndexAddr_ep, evFieldAddr_ptr, evFieldAddr_ep, evIndex_arr, evField_d, evLen_sl, evConv_int, evUn_not, evPick_bool, evMax_int, evMin_int, gdB_true, gdB_false, gdB_undef, evStore_ptr, evBin_add, evBin_sub, evBin_mul, evBin_and, evBin_or, evBin_xor, evBin_andNot, evBin_eql, evBin_neq, evBin_lss, evBin_leq, evBin_gtr, evBin_geq, evBin_shr, evBin_shl, D.get_nil, D.get_arr, D.get_cons0, D.get_consS, D.set_nil, D.set_cons0, D.set_consS, D.shape, Sh.sub, Sh.size, List.getElem?_cons_zero, List.getElem?_cons_succ, Option.bind_some, Option.bind_none, Option.getD_some, Option.getD_none, V.keysIn, V.kill, V.has, decide_eq_true_eq, beq_iff_eq, bne_iff_ne, ne_eq, Bool.not_eq_true', Bool.and_true, Bool.and_self, Bool.true_and, if_true, if_false, reduceIte, Bool.false_eq_true, decide_true, decide_false, beq_self_eq_true, Bool.not_true, Bool.not_false, true_and, and_true, and_self, List.append_assoc, List.nil_append, List.cons_append, evBin_eqA, evBin_neA, evBin_eqC, evBin_neC, Int.toNat_natCast, ck, D.set_arr', setN_int, Int.cast_ofNat_Int, Int.reduceToNat, bne_self_eq_false, Bool.or_false, Bool.false_or, Bool.false_and, Bool.and_false, loopB_eq, onBox_box, onBox_row, onArr_arr, onSlice_slice, onStr_str, onInt_int, dstAt_zero, dstAt_succ, gdAt_some, resX_normal, resX_ret, resF_one, resF_two, resF_nil, resL_nil, resL_cons, res1_tmp, res1_cell, resV_d, resV_nil, resV_tg, enter_eq, toList_lit, ↓onBox_box, ↓onArr_arr, ↓onSlice_slice, ↓onStr_str, ↓onInt_int, ↓gdAt_some, onAgg_arr, onAgg_str, evBuild_eq, evBuildSlice_eq, evAppend_tg, evAppend_nil, fillD_nil, fillD_cons, fillL_nil, fillL_cons, onBool_bool, evBin_eqB, evBin_neB, evBin_rem, evBin_quo, ↓evC_scope, ↓jumps_normal, jumps_normal, ↓jumps_exit, jumps_exit, ↓jumps_ret, jumps_ret, jumps_ite, hasLab_seq, hasLab_label, hasLab_region, hasLab_cond, hasLab_block, hasLab_loop, hasLab_scope, hasLab_skip, hasLab_ret, hasLab_goto, hasLab_exit, ↓evL_seq, ↓evL_label, Bool.or_true, Bool.true_or, joinB_nn, joinB_rn, joinB_nr, ↓dpq_nil, dpq_nil, ↓dpq_cons, dpq_cons, keyNe_ptr, keyNe_ep, keyNe_undef, ty2, ty3, ty4, ty5, ty6, ty7, ty8, ty9, ty10, ty11, ty12, ty13, ty14, ty21, ty22, ty23, ty24, ty31, ty32, ty33, ty34, ty36, ty41, ty43, ty44, ty45, ty46, ty47, ty48, ty56, ty74, ty75, ty84, ty85, ty86, ty87, ty91, ty95, ty99, ty113, ty114, ty117, ty118]

def n1 (x : Nat) : Nat := ((x >>> 1) &&& 6148914691236517205) + (x &&& 6148914691236517205)
def n2 (x : Nat) : Nat := ((x >>> 2) &&& 3689348814741910323) + (x &&& 3689348814741910323)
def n3 (x : Nat) : Nat := ((x >>> 4) + x) &&& 1085102592571150095
def n4 (k x : Nat) : Nat := x + (x >>> k)
def fN (y : Nat) : Nat := n4 32 (n4 16 (n4 8 (n3 (n2 (n1 y))))) &&& 127
theorem and_u64 {a b : Nat} (ha : a < 18446744073709551616) (hb : b < 18446744073709551616) : bits .and .u64 (a : Int) (b : Int) = ((a &&& b : Nat) : Int) := by
  show IntKind.u64.wrap (BitVec.ofInt 64 (a : Int) &&& BitVec.ofInt 64 (b : Int)).toNat = _
  have e : (BitVec.ofInt 64 (a : Int) &&& BitVec.ofInt 64 (b : Int)).toNat = a &&& b := by
    rw [BitVec.toNat_and, BitVec.ofInt_natCast, BitVec.ofInt_natCast, BitVec.toNat_ofNat, BitVec.toNat_ofNat, Nat.mod_eq_of_lt ha, Nat.mod_eq_of_lt hb]
  rw [e]
  have : a &&& b ≤ b := Nat.and_le_right
  exact IntWalk.u64_in _ (by omega)
theorem and_i64 {a b : Nat} (ha : a < 9223372036854775808) (hb : b < 9223372036854775808) : bits .and .i64 (a : Int) (b : Int) = ((a &&& b : Nat) : Int) := by
  show IntKind.i64.wrap (BitVec.ofInt 64 (a : Int) &&& BitVec.ofInt 64 (b : Int)).toNat = _
  have e : (BitVec.ofInt 64 (a : Int) &&& BitVec.ofInt 64 (b : Int)).toNat = a &&& b := by
    rw [BitVec.toNat_and, BitVec.ofInt_natCast, BitVec.ofInt_natCast, BitVec.toNat_ofNat, BitVec.toNat_ofNat, Nat.mod_eq_of_lt (by omega), Nat.mod_eq_of_lt (by omega)]
  rw [e]
  have : a &&& b ≤ b := Nat.and_le_right
  exact IntWalk.i64_in _ (by omega)
theorem shr_nat (a k : Nat) : (a : Int).fdiv (2 ^ k) = ((a >>> k : Nat) : Int) := by
  rw [Nat.shiftRight_eq_div_pow, Int.fdiv_eq_ediv_of_nonneg _ (by exact Int.le_of_lt (Int.pow_pos (by decide)))]
  norm_cast
theorem u64_nat {a : Nat} (h : a < 18446744073709551616) : IntKind.u64.wrap (a : Int) = a := IntWalk.u64_in _ (by omega)
theorem shr_le (a k : Nat) : a >>> k ≤ a := by rw [Nat.shiftRight_eq_div_pow]; exact Nat.div_le_self _ _
theorem s1_nat {x : Nat} (h : x < 18446744073709551616) : s1 (x : Int) = (n1 x : Nat) ∧ n1 x ≤ 12297829382473034410 := by
  have b1 : (x >>> 1) &&& 6148914691236517205 ≤ 6148914691236517205 := Nat.and_le_right
  have b2 : x &&& 6148914691236517205 ≤ 6148914691236517205 := Nat.and_le_right
  have q := shr_le x 1
  refine ⟨?_, by unfold n1; omega⟩
  unfold s1 n1
  rw [show min 1 IntKind.u64.bits = 1 from rfl, shr_nat, show (6148914691236517205 : Int) = ((6148914691236517205 : Nat) : Int) from rfl, and_u64 (by omega) (by decide), and_u64 h (by decide), ← Int.natCast_add, u64_nat (by omega)]
theorem s2_nat {x : Nat} (h : x < 18446744073709551616) : s2 (x : Int) = (n2 x : Nat) ∧ n2 x ≤ 7378697629483820646 := by
  have b1 : (x >>> 2) &&& 3689348814741910323 ≤ 3689348814741910323 := Nat.and_le_right
  have b2 : x &&& 3689348814741910323 ≤ 3689348814741910323 := Nat.and_le_right
  have q := shr_le x 2
  refine ⟨?_, by unfold n2; omega⟩
  unfold s2 n2
  rw [show min 2 IntKind.u64.bits = 2 from rfl, shr_nat, show (3689348814741910323 : Int) = ((3689348814741910323 : Nat) : Int) from rfl, and_u64 (by omega) (by decide), and_u64 h (by decide), ← Int.natCast_add, u64_nat (by omega)]
theorem s3_nat {x : Nat} (h : x ≤ 7378697629483820646) : s3 (x : Int) = (n3 x : Nat) ∧ n3 x ≤ 1085102592571150095 := by
  have q := shr_le x 4
  refine ⟨?_, by unfold n3; exact Nat.and_le_right⟩
  unfold s3 n3
  rw [show min 4 IntKind.u64.bits = 4 from rfl, shr_nat, ← Int.natCast_add, u64_nat (by omega), show (1085102592571150095 : Int) = ((1085102592571150095 : Nat) : Int) from rfl, and_u64 (by omega) (by decide)]
theorem s4_nat {x k : Nat} (hk : k ≤ 64) (h : x ≤ 4340410370284600380) : s4 k (x : Int) = (n4 k x : Nat) ∧ n4 k x ≤ 2 * x := by
  have q := shr_le x k
  refine ⟨?_, by unfold n4; omega⟩
  unfold s4 n4
  rw [show min k IntKind.u64.bits = k from Nat.min_eq_left hk, shr_nat, ← Int.natCast_add, u64_nat (by omega)]
theorem onesI_nat {y : Nat} (hy : y < 65536) : onesI (y : Int) = (fN y : Nat) := by
  unfold onesI fN
  obtain ⟨e1, b1⟩ := s1_nat (x := y) (by omega)
  obtain ⟨e2, b2⟩ := s2_nat (x := n1 y) (by omega)
  obtain ⟨e3, b3⟩ := s3_nat b2
  obtain ⟨e4, b4⟩ := s4_nat (k := 8) (by omega) (x := n3 (n2 (n1 y))) (by omega)
  obtain ⟨e5, b5⟩ := s4_nat (k := 16) (by omega) (x := n4 8 (n3 (n2 (n1 y)))) (by omega)
  obtain ⟨e6, b6⟩ := s4_nat (k := 32) (by omega) (x := n4 16 (n4 8 (n3 (n2 (n1 y))))) (by omega)
  rw [e1, e2, e3, e4, e5, e6]
  unfold s5
  rw [IntWalk.i64_in _ (by omega), show (127 : Int) = ((127 : Nat) : Int) from rfl, and_i64 (by omega) (by decide)]
def cR (y : Nat) : Nat → Nat
  | 0 => 0
  | k + 1 => cR y k + (y.testBit k).toNat
/-! Byte by byte. -/
theorem and_lane {h l M m : Nat} (hl : l < 256) (hm : m < 256) : (256 * h + l) &&& (256 * M + m) = 256 * (h &&& M) + (l &&& m) := by
  have hlm : l &&& m < 256 := Nat.lt_of_le_of_lt Nat.and_le_right hm
  refine Nat.eq_of_testBit_eq fun i => ?_
  rw [Nat.testBit_and, show 256 = 2 ^ 8 from rfl, Nat.testBit_two_pow_mul_add _ hl, Nat.testBit_two_pow_mul_add _ hm, Nat.testBit_two_pow_mul_add _ hlm]
  split <;> rw [Nat.testBit_and]
theorem and_byte {x M m : Nat} (hx : x < 256) (hm : m < 256) : x &&& (256 * M + m) = x &&& m := by
  have := and_lane (h := 0) (M := M) hx hm
  rw [Nat.zero_and] at this; simpa using this
theorem c1 : ∀ l, l < 256 → ∀ b, b < 2 → (128 * b + l / 2) &&& 85 = (l / 2) &&& 85 := by decide +kernel
theorem c2 : ∀ l, l < 256 → ∀ b, b < 4 → (64 * b + l / 4) &&& 51 = (l / 4) &&& 51 := by decide +kernel
theorem c3 : ∀ l, l < 69 → ∀ b, b < 5 → (16 * b + l / 16 + l) &&& 15 = (l / 16 + l) &&& 15 := by decide +kernel
def b1 (x : Nat) : Nat := ((x / 2) &&& 85) + (x &&& 85)
def b2 (x : Nat) : Nat := ((x / 4) &&& 51) + (x &&& 51)
def b3 (x : Nat) : Nat := (x / 16 + x) &&& 15
theorem c4 : ∀ l, l < 256 → b1 l < 256 ∧ b2 (b1 l) < 69 ∧ b2 (b1 l) % 16 < 5 ∧ b3 (b2 (b1 l)) = cR l 8 ∧ cR l 8 < 9 := by decide +kernel
theorem c5 : ∀ x, x < 17 → x &&& 127 = x := by decide
theorem n1_lane {h l : Nat} (hh : h < 256) (hl : l < 256) : n1 (256 * h + l) = 256 * b1 h + b1 l := by
  unfold n1 b1
  rw [Nat.shiftRight_eq_div_pow, show (6148914691236517205 : Nat) = 256 * 24019198012642645 + 85 from rfl, show (256 * h + l) / 2 ^ 1 = 256 * (h / 2) + (128 * (h % 2) + l / 2) by omega,
    and_lane (by omega) (by decide), and_lane hl (by decide), show (24019198012642645 : Nat) = 256 * 93824992236885 + 85 from rfl, and_byte (by omega) (by decide), and_byte hh (by decide), c1 l hl (h % 2) (by omega)]
  omega
theorem n2_lane {h l : Nat} (hh : h < 256) (hl : l < 256) : n2 (256 * h + l) = 256 * b2 h + b2 l := by
  unfold n2 b2
  rw [Nat.shiftRight_eq_div_pow, show (3689348814741910323 : Nat) = 256 * 14411518807585587 + 51 from rfl, show (256 * h + l) / 2 ^ 2 = 256 * (h / 4) + (64 * (h % 4) + l / 4) by omega,
    and_lane (by omega) (by decide), and_lane hl (by decide), show (14411518807585587 : Nat) = 256 * 56294995342131 + 51 from rfl, and_byte (by omega) (by decide), and_byte hh (by decide), c2 l hl (h % 4) (by omega)]
  omega
theorem n3_lane {h l : Nat} (hh : h < 69) (hl : l < 69) (h4 : h % 16 < 5) : n3 (256 * h + l) = 256 * b3 h + b3 l := by
  unfold n3 b3
  rw [Nat.shiftRight_eq_div_pow, show (1085102592571150095 : Nat) = 256 * 4238682002231055 + 15 from rfl, show (256 * h + l) / 2 ^ 4 + (256 * h + l) = 256 * (h / 16 + h) + (16 * (h % 16) + l / 16 + l) by omega,
    and_lane (by omega) (by decide), show (4238682002231055 : Nat) = 256 * 16557351571215 + 15 from rfl, and_byte (by omega) (by decide), c3 l hl (h % 16) h4]
theorem cR_lo {h l : Nat} (hl : l < 256) : ∀ k, k ≤ 8 → cR (256 * h + l) k = cR l k
  | 0, _ => rfl
  | k + 1, hk => by
    show cR (256 * h + l) k + ((256 * h + l).testBit k).toNat = cR l k + (l.testBit k).toNat
    rw [cR_lo hl k (by omega), show 256 = 2 ^ 8 from rfl, Nat.testBit_two_pow_mul_add _ hl, if_pos (by omega)]
theorem cR_hi {h l : Nat} (hl : l < 256) : ∀ k, cR (256 * h + l) (8 + k) = cR l 8 + cR h k
  | 0 => cR_lo hl 8 (Nat.le_refl _)
  | k + 1 => by
    show cR (256 * h + l) (8 + k) + ((256 * h + l).testBit (8 + k)).toNat = cR l 8 + (cR h k + (h.testBit k).toNat)
    rw [cR_hi hl k, show 256 = 2 ^ 8 from rfl, Nat.testBit_two_pow_mul_add _ hl, if_neg (by omega), show 8 + k - 8 = k by omega]
    omega
theorem fN_eq {y : Nat} (hy : y < 65536) : fN y = cR y 16 := by
  obtain ⟨h, l, rfl, hh, hl⟩ : ∃ h l, y = 256 * h + l ∧ h < 256 ∧ l < 256 := ⟨y / 256, y % 256, by omega, by omega, by omega⟩
  obtain ⟨p1, p2, p3, p4, p5⟩ := c4 h hh
  obtain ⟨q1, q2, q3, q4, q5⟩ := c4 l hl
  have e : cR (256 * h + l) 16 = cR l 8 + cR h 8 := cR_hi hl 8
  unfold fN
  rw [n1_lane hh hl, n2_lane p1 q1, n3_lane p2 q2 p3, p4, q4, e]
  generalize cR h 8 = a at *
  generalize cR l 8 = b at *
  have e1 : n4 8 (256 * a + b) = 256 * a + (a + b) := by unfold n4; rw [Nat.shiftRight_eq_div_pow]; omega
  have e2 : n4 16 (256 * a + (a + b)) = 256 * a + (a + b) := by unfold n4; rw [Nat.shiftRight_eq_div_pow]; omega
  have e3 : n4 32 (256 * a + (a + b)) = 256 * a + (a + b) := by unfold n4; rw [Nat.shiftRight_eq_div_pow]; omega
  rw [e1, e2, e3, show (127 : Nat) = 256 * 0 + 127 from rfl, and_lane (by omega) (by decide), Nat.and_zero, c5 (a + b) (by omega)]
  omega
theorem cR_list {s : Int} {y : Nat} (h : ∀ m : Nat, m < 16 → has s m = y.testBit m) : ∀ k, k ≤ 16 → (listTo s k).length = cR y k
  | 0, _ => rfl
  | k + 1, hk => by
    rw [listTo_succ, h k (by omega)]
    have ih := cR_list h k (by omega)
    show _ = cR y k + (y.testBit k).toNat
    cases y.testBit k <;> simp [ih]
def countF (s : Int) : Int := (listTo s 16).length
theorem and_ffff {s : Int} (hs : inI s) : ∃ y : Nat, y < 65536 ∧ bits .and .i64 s 65535 = (y : Int) ∧ ∀ m : Nat, m < 16 → has s m = y.testBit m := by
  have e : bits .and .i64 s 65535 = IntKind.i64.wrap (BitVec.ofInt 64 s &&& BitVec.ofInt 64 65535).toNat := rfl
  have e2 : (BitVec.ofInt 64 s &&& BitVec.ofInt 64 65535).toNat ≤ 65535 := by
    rw [BitVec.toNat_and]
    exact Nat.and_le_right
  refine ⟨(BitVec.ofInt 64 s &&& BitVec.ofInt 64 65535).toNat, by omega, ?_, fun m hm => ?_⟩
  · rw [e]; exact IntWalk.i64_in _ (by omega)
  · rw [has_nat hs hm]
    show (BitVec.ofInt 64 s).getLsbD m = _
    rw [BitVec.testBit_toNat, BitVec.getLsbD_and]
    have : (BitVec.ofInt 64 65535).getLsbD m = true := by
      have : ∀ m, m < 16 → (BitVec.ofInt 64 65535).getLsbD m = true := by decide
      exact this m hm
    rw [this, Bool.and_true]
theorem count_ev (k : Nat) {s : Int} (hs : inI s) : evF Try.prog env xt (k+3) 41 [.d (.s (.int .i64 (s)))] = some (.d (.s (.int .i64 (countF s)))) := by
  rw [evF_eq Try.func41 (show Try.f41.body = some _ from rfl) rfl rfl (by show 1 ≤ 7; decide)]
  obtain ⟨y, hy, e, hb⟩ := and_ffff hs
  have e2 : IntKind.u64.wrap (y : Int) = y := u64_nat (by omega)
  have e3 : onesI (y : Int) = countF s := by
    rw [onesI_nat hy, fN_eq hy]
    unfold countF
    rw [cR_list hb 16 (Nat.le_refl _)]
  simp (decide := true) only [e, e2, ones_ev, e3, Try.f41, rid, ↓sq_normal, sq_normal, ↓sq_exit, sq_exit, ↓sq_goto, sq_goto, ↓sq_ret, sq_ret, ↓sq_none, sq_none, ↓sq_ite, sq_ite, ↓bkx_normal, bkx_normal, ↓bkx_exit, bkx_exit, ↓bkx_goto, bkx_goto, ↓bkx_ret, bkx_ret, ↓bkx_none, bkx_none, ↓bkx_ite, bkx_ite, ↓cd_bool, cd_bool, ↓ob_some', ob_some', ↓ob_none', ob_none', ↓fin_some, fin_some, ↓it1_normal, it1_normal, ↓it1_exit, it1_exit, ↓it1_goto, it1_goto, ↓it1_ret, it1_ret, ↓it1_ite, it1_ite, ↓cdb_none, cdb_none, ↓cdb_some, cdb_some, fgt_eq, ↓evC_skip, ↓evC_region, ↓evC_regionD, ↓evC_seq, ↓evC_cond, ↓evC_block, ↓evC_exit, ↓evC_ret, ↓evC_label, ↓evC_goto, ↓evOps_nil, ↓evOps_cons, ↓evG_plain, ↓evG_guard, ↓evO_store, ↓evO_append, ↓fin_ob, ↓fin_pure1, ↓evO_move, ↓evO_assign, ↓evO_pick, ↓evO_box, ↓evO_alloc, ↓evO_load, ↓evO_indexAddr, ↓evO_fieldAddr, ↓evO_index, ↓evO_field, ↓evO_extract, ↓evO_build, ↓evO_buildSlice, ↓evO_binOp, ↓evO_unOp, ↓evO_convert, ↓evO_len, ↓evO_max, ↓evO_min, ↓evO_call, ↓evO_callT, callF_eq, listV_nil, listV_cons, ↓evO_func, evFunc_eq, capL_nil, capL_cons, capV_ptr, capV_ro, capV_d, snap_d, ↓evO_make, evMake_eq, retF_clos0, retF_clos1, snapL_nil, snapL_cons, snap_ptr, snap_ro, snap_tg, callee_clos, argV_clos, resV_clos0, resV_clos1, keyNe_d, keyNe_sl, keyNe_clos, evConv_sl, onString_string, evLen_str, evIndex_str, evBin_eqS, evBin_neS, rvV_clos, ↓evO_rev, rvF_is, rvb_some, rvb_none, ↓evRev_eq, rvV_d, rvV_ptr, rvV_nil, rvV_ro, rvV_tg, rvV_tcons, rvV_tnil, rvV_undef, rvV_junk, ↓St.app_none, ↓St.app_some, ↓St.app_new, ↓fresh_none, ↓fresh_some, ↓upd_app, ↓tab_nil, ↓tab_cons, ↓frame_nil, ↓frame_cons, forget_eq, ↓opd_tmp, ↓opd_int, ↓opd_bool, ↓opd_str, ↓opd_float, ↓opd_func, ↓opd_nil, evMove_tmp, evMove_int, evMove_bool, evMove_str, evMove_float, evMove_func, evMove_nil, ↓args_nil, ↓args_cons, List.all_cons, List.all_nil, List.map_cons, List.map_nil, ↓evC_loop, clearD_nil, clearD_cons0, clearD_cons1, ob_ite, evGd_true, evGd_false, retF_d, retF_sl, retF_nil, retF_cons, retT_cons, callee_func, V.dat_d, argV_d, argV_sl, ret1_d, ret1_sl, retT_nil, nthV_zero, nthV_succ, evLoad_ptr, evLoad_ep, evIndexAddr_ptr, evIndexAddr_sl, evIndexAddr_ep, evFieldAddr_ptr, evFieldAddr_ep, evIndex_arr, evField_d, evLen_sl, evConv_int, evUn_not, evPick_bool, evMax_int, evMin_int, gdB_true, gdB_false, gdB_undef, evStore_ptr, evBin_add, evBin_sub, evBin_mul, evBin_and, evBin_or, evBin_xor, evBin_andNot, evBin_eql, evBin_neq, evBin_lss, evBin_leq, evBin_gtr, evBin_geq, evBin_shr, evBin_shl, D.get_nil, D.get_arr, D.get_cons0, D.get_consS, D.set_nil, D.set_cons0, D.set_consS, D.shape, Sh.sub, Sh.size, List.getElem?_cons_zero, List.getElem?_cons_succ, Option.bind_some, Option.bind_none, Option.getD_some, Option.getD_none, V.keysIn, V.kill, V.has, decide_eq_true_eq, beq_iff_eq, bne_iff_ne, ne_eq, Bool.not_eq_true', Bool.and_true, Bool.and_self, Bool.true_and, if_true, if_false, reduceIte, Bool.false_eq_true, decide_true, decide_false, beq_self_eq_true, Bool.not_true, Bool.not_false, true_and, and_true, and_self, List.append_assoc, List.nil_append, List.cons_append, evBin_eqA, evBin_neA, evBin_eqC, evBin_neC, Int.toNat_natCast, ck, D.set_arr', setN_int, Int.cast_ofNat_Int, Int.reduceToNat, bne_self_eq_false, Bool.or_false, Bool.false_or, Bool.false_and, Bool.and_false, loopB_eq, onBox_box, onBox_row, onArr_arr, onSlice_slice, onStr_str, onInt_int, dstAt_zero, dstAt_succ, gdAt_some, resX_normal, resX_ret, resF_one, resF_two, resF_nil, resL_nil, resL_cons, res1_tmp, res1_cell, resV_d, resV_nil, resV_tg, enter_eq, toList_lit, ↓onBox_box, ↓onArr_arr, ↓onSlice_slice, ↓onStr_str, ↓onInt_int, ↓gdAt_some, onAgg_arr, onAgg_str, evBuild_eq, evBuildSlice_eq, evAppend_tg, evAppend_nil, fillD_nil, fillD_cons, fillL_nil, fillL_cons, onBool_bool, evBin_eqB, evBin_neB, evBin_rem, evBin_quo, ↓evC_scope, ↓jumps_normal, jumps_normal, ↓jumps_exit, jumps_exit, ↓jumps_ret, jumps_ret, jumps_ite, hasLab_seq, hasLab_label, hasLab_region, hasLab_cond, hasLab_block, hasLab_loop, hasLab_scope, hasLab_skip, hasLab_ret, hasLab_goto, hasLab_exit, ↓evL_seq, ↓evL_label, Bool.or_true, Bool.true_or, joinB_nn, joinB_rn, joinB_nr, ↓dpq_nil, dpq_nil, ↓dpq_cons, dpq_cons, keyNe_ptr, keyNe_ep, keyNe_undef, ty2, ty3, ty4, ty5, ty6, ty7, ty8, ty9, ty10, ty11, ty12, ty13, ty14, ty21, ty22, ty23, ty24, ty31, ty32, ty33, ty34, ty36, ty41, ty43, ty44, ty45, ty46, ty47, ty48, ty56, ty74, ty75, ty84, ty85, ty86, ty87, ty91, ty95, ty99, ty113, ty114, ty117, ty118]
theorem rcount_ev (k : Nat) (s : Int) : evF Try.prog env xt (k+4) 87 [.d (.s (.int .i64 (s)))] = some (.d (.s (.int .i64 (countF s)))) := by
  rw [evF_eq Try.func87 (show Try.f87.body = some _ from rfl) rfl rfl (by show 1 ≤ 6; decide)]
  simp (decide := true) only [rlist_ev, ints_length, countF, Try.f87, rid, ↓sq_normal, sq_normal, ↓sq_exit, sq_exit, ↓sq_goto, sq_goto, ↓sq_ret, sq_ret, ↓sq_none, sq_none, ↓sq_ite, sq_ite, ↓bkx_normal, bkx_normal, ↓bkx_exit, bkx_exit, ↓bkx_goto, bkx_goto, ↓bkx_ret, bkx_ret, ↓bkx_none, bkx_none, ↓bkx_ite, bkx_ite, ↓cd_bool, cd_bool, ↓ob_some', ob_some', ↓ob_none', ob_none', ↓fin_some, fin_some, ↓it1_normal, it1_normal, ↓it1_exit, it1_exit, ↓it1_goto, it1_goto, ↓it1_ret, it1_ret, ↓it1_ite, it1_ite, ↓cdb_none, cdb_none, ↓cdb_some, cdb_some, fgt_eq, ↓evC_skip, ↓evC_region, ↓evC_regionD, ↓evC_seq, ↓evC_cond, ↓evC_block, ↓evC_exit, ↓evC_ret, ↓evC_label, ↓evC_goto, ↓evOps_nil, ↓evOps_cons, ↓evG_plain, ↓evG_guard, ↓evO_store, ↓evO_append, ↓fin_ob, ↓fin_pure1, ↓evO_move, ↓evO_assign, ↓evO_pick, ↓evO_box, ↓evO_alloc, ↓evO_load, ↓evO_indexAddr, ↓evO_fieldAddr, ↓evO_index, ↓evO_field, ↓evO_extract, ↓evO_build, ↓evO_buildSlice, ↓evO_binOp, ↓evO_unOp, ↓evO_convert, ↓evO_len, ↓evO_max, ↓evO_min, ↓evO_call, ↓evO_callT, callF_eq, listV_nil, listV_cons, ↓evO_func, evFunc_eq, capL_nil, capL_cons, capV_ptr, capV_ro, capV_d, snap_d, ↓evO_make, evMake_eq, retF_clos0, retF_clos1, snapL_nil, snapL_cons, snap_ptr, snap_ro, snap_tg, callee_clos, argV_clos, resV_clos0, resV_clos1, keyNe_d, keyNe_sl, keyNe_clos, evConv_sl, onString_string, evLen_str, evIndex_str, evBin_eqS, evBin_neS, rvV_clos, ↓evO_rev, rvF_is, rvb_some, rvb_none, ↓evRev_eq, rvV_d, rvV_ptr, rvV_nil, rvV_ro, rvV_tg, rvV_tcons, rvV_tnil, rvV_undef, rvV_junk, ↓St.app_none, ↓St.app_some, ↓St.app_new, ↓fresh_none, ↓fresh_some, ↓upd_app, ↓tab_nil, ↓tab_cons, ↓frame_nil, ↓frame_cons, forget_eq, ↓opd_tmp, ↓opd_int, ↓opd_bool, ↓opd_str, ↓opd_float, ↓opd_func, ↓opd_nil, evMove_tmp, evMove_int, evMove_bool, evMove_str, evMove_float, evMove_func, evMove_nil, ↓args_nil, ↓args_cons, List.all_cons, List.all_nil, List.map_cons, List.map_nil, ↓evC_loop, clearD_nil, clearD_cons0, clearD_cons1, ob_ite, evGd_true, evGd_false, retF_d, retF_sl, retF_nil, retF_cons, retT_cons, callee_func, V.dat_d, argV_d, argV_sl, ret1_d, ret1_sl, retT_nil, nthV_zero, nthV_succ, evLoad_ptr, evLoad_ep, evIndexAddr_ptr, evIndexAddr_sl, evIndexAddr_ep, evFieldAddr_ptr, evFieldAddr_ep, evIndex_arr, evField_d, evLen_sl, evConv_int, evUn_not, evPick_bool, evMax_int, evMin_int, gdB_true, gdB_false, gdB_undef, evStore_ptr, evBin_add, evBin_sub, evBin_mul, evBin_and, evBin_or, evBin_xor, evBin_andNot, evBin_eql, evBin_neq, evBin_lss, evBin_leq, evBin_gtr, evBin_geq, evBin_shr, evBin_shl, D.get_nil, D.get_arr, D.get_cons0, D.get_consS, D.set_nil, D.set_cons0, D.set_consS, D.shape, Sh.sub, Sh.size, List.getElem?_cons_zero, List.getElem?_cons_succ, Option.bind_some, Option.bind_none, Option.getD_some, Option.getD_none, V.keysIn, V.kill, V.has, decide_eq_true_eq, beq_iff_eq, bne_iff_ne, ne_eq, Bool.not_eq_true', Bool.and_true, Bool.and_self, Bool.true_and, if_true, if_false, reduceIte, Bool.false_eq_true, decide_true, decide_false, beq_self_eq_true, Bool.not_true, Bool.not_false, true_and, and_true, and_self, List.append_assoc, List.nil_append, List.cons_append, evBin_eqA, evBin_neA, evBin_eqC, evBin_neC, Int.toNat_natCast, ck, D.set_arr', setN_int, Int.cast_ofNat_Int, Int.reduceToNat, bne_self_eq_false, Bool.or_false, Bool.false_or, Bool.false_and, Bool.and_false, loopB_eq, onBox_box, onBox_row, onArr_arr, onSlice_slice, onStr_str, onInt_int, dstAt_zero, dstAt_succ, gdAt_some, resX_normal, resX_ret, resF_one, resF_two, resF_nil, resL_nil, resL_cons, res1_tmp, res1_cell, resV_d, resV_nil, resV_tg, enter_eq, toList_lit, ↓onBox_box, ↓onArr_arr, ↓onSlice_slice, ↓onStr_str, ↓onInt_int, ↓gdAt_some, onAgg_arr, onAgg_str, evBuild_eq, evBuildSlice_eq, evAppend_tg, evAppend_nil, fillD_nil, fillD_cons, fillL_nil, fillL_cons, onBool_bool, evBin_eqB, evBin_neB, evBin_rem, evBin_quo, ↓evC_scope, ↓jumps_normal, jumps_normal, ↓jumps_exit, jumps_exit, ↓jumps_ret, jumps_ret, jumps_ite, hasLab_seq, hasLab_label, hasLab_region, hasLab_cond, hasLab_block, hasLab_loop, hasLab_scope, hasLab_skip, hasLab_ret, hasLab_goto, hasLab_exit, ↓evL_seq, ↓evL_label, Bool.or_true, Bool.true_or, joinB_nn, joinB_rn, joinB_nr, ↓dpq_nil, dpq_nil, ↓dpq_cons, dpq_cons, keyNe_ptr, keyNe_ep, keyNe_undef, ty2, ty3, ty4, ty5, ty6, ty7, ty8, ty9, ty10, ty11, ty12, ty13, ty14, ty21, ty22, ty23, ty24, ty31, ty32, ty33, ty34, ty36, ty41, ty43, ty44, ty45, ty46, ty47, ty48, ty56, ty74, ty75, ty84, ty85, ty86, ty87, ty91, ty95, ty99, ty113, ty114, ty117, ty118]
end Go.Proofs.Ythpccjgpbcginaa.Ev
