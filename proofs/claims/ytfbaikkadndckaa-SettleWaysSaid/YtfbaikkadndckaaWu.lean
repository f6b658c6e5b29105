/- fingerpostref27.Ways: the ways, rising. -/
import Derived.Test.YtfbaikkadndckaaWv
namespace Go.Proofs.Ytfbaikkadndckaa.Ev
open Go
attribute [local congr] ob_congr sq_congr cd_congr ite_congr1 iter_congr it1_congr jumps_congr
set_option maxRecDepth 100000
set_option linter.unusedSimpArgs false
set_option linter.unusedVariables false
open Go.RowKit
theorem rwaysFn : ∃ fn, Try.prog.funcs[54]? = some fn ∧ fn.body.isNone = false ∧ (fn.name == "runtime.NumGoroutine") = false := ⟨Try.f54, Try.func54, by kernel_rfl, by kernel_rfl⟩
theorem res4 {f : Func} (hf : f.results = #[.tmp 4]) {a : Act} {u : Value} (h4 : a.eval (.tmp 4) = u) (w : World) : (results f a.tmps).run Try.prog w = .ok u w := by
  have e8 : a.tmps.getD 4 undef = u := h4
  unfold results
  rw [hf]
  simp only [List.mapM_toArray, Array.mapM_eq_mapM_toList]
  simp only [List.mapM_cons, List.mapM_nil, Sem.run_bind, Sem.run_pure, Result.andThen_ok, Sem.run_map]
  simpa using e8
theorem rways_ok (k : Kn) (j : Int) : CallOK Try.prog 54 [.d (knV k), .d (.s (.int .i64 (j)))] (.sl .ro shW (ws (wList k j))) := by
  refine ⟨rwaysFn, fun W vs hra => ?_⟩
  have hl := (RA_at hra).1
  have hlen := listTo_len k.up 16
  refine calls_of_wp Try.func54 rfl ?_
  have r0 := enter_rel hra 100
  have hn0 : ({ tmps := vs.toArray ++ Array.replicate (100 - vs.toArray.size) undef, defers := [] } : Act).tmps.size = 100 := by simp at hl ⊢; omega
  refine wp_seq ?_
  refine pieceR (b := ([1, 2], [2])) (s' := ⟨tab .junk [(1, .d (.s (.int .i64 (j)))), (2, .ptr 2 (shK) [] (shK))], tab none [(2, some (.box (knV k)))]⟩) (fn := 54) (lf := loopFuel) env_ok hcallX (by kernel_rfl) ?e1 r0 hn0 (fun a w φ r hn => ?_)
  case e1 => simp (decide := true) only [Try.f54, rid, kl54_5, kl54_12, ↓sBp, sBq, List.all_cons, List.all_nil, List.map_cons, List.map_nil, D.shape, Sh.sub, Sh.size, List.getElem?_cons_zero, List.getElem?_cons_succ, Option.bind_some, Option.bind_none, Option.getD_some, Option.getD_none, V.keysIn, V.kill, V.has, decide_eq_true_eq, beq_iff_eq, bne_iff_ne, ne_eq, Bool.not_eq_true', Bool.and_true, Bool.and_self, Bool.true_and, if_true, if_false, reduceIte, Bool.false_eq_true, decide_true, decide_false, beq_self_eq_true, Bool.not_true, Bool.not_false, true_and, and_true, and_self, List.append_assoc, List.nil_append, List.cons_append, Int.toNat_natCast, ck, Int.cast_ofNat_Int, Int.reduceToNat, bne_self_eq_false, Bool.or_false, Bool.false_or, Bool.false_and, Bool.and_false, Bool.or_true, Bool.true_or]
  refine wp_seq ?_
  refine pieceR (b := ([1, 2, 5], [2, 5])) (s' := ⟨tab .junk [(1, .d (.s (.int .i64 (j)))), (2, .ptr 2 (shK) [] (shK)), (5, .sl (.tg 5) shW [])], tab none [(2, some (.box (knV k))), (5, some .row)]⟩) (fn := 54) (lf := loopFuel) env_ok hcallX (by kernel_rfl) ?e2 r hn (fun a w φ r hn => ?_)
  case e2 => simp (decide := true) only [Try.f54, rid, kl54_5, kl54_12, ↓sBp, sBq, List.all_cons, List.all_nil, List.map_cons, List.map_nil, D.shape, Sh.sub, Sh.size, List.getElem?_cons_zero, List.getElem?_cons_succ, Option.bind_some, Option.bind_none, Option.getD_some, Option.getD_none, V.keysIn, V.kill, V.has, decide_eq_true_eq, beq_iff_eq, bne_iff_ne, ne_eq, Bool.not_eq_true', Bool.and_true, Bool.and_self, Bool.true_and, if_true, if_false, reduceIte, Bool.false_eq_true, decide_true, decide_false, beq_self_eq_true, Bool.not_true, Bool.not_false, true_and, and_true, and_self, List.append_assoc, List.nil_append, List.cons_append, Int.toNat_natCast, ck, Int.cast_ofNat_Int, Int.reduceToNat, bne_self_eq_false, Bool.or_false, Bool.false_or, Bool.false_and, Bool.and_false, Bool.or_true, Bool.true_or]
  refine wp_seq ?_
  refine wp_seq ?_
  refine pieceR (b := ([1, 2, 5, 21], [2, 5])) (s' := ⟨tab .junk [(1, .d (.s (.int .i64 (j)))), (2, .ptr 2 (shK) [] (shK)), (5, .sl (.tg 5) shW []), (21, .d (.s (.bool (!(right j && (j != k.self))))))], tab none [(2, some (.box (knV k))), (5, some .row)]⟩) (fn := 54) (lf := loopFuel) env_ok hcallX (by kernel_rfl) ?e3 r hn (fun a w φ r hn => ?_)
  case e3 =>
    rcases Bool.eq_false_or_eq_true (right j) with h1 | h1
    · rcases Bool.eq_false_or_eq_true (j == k.self) with h2 | h2
      · have h2' : (j != k.self) = false := by rw [bne, h2]; rfl
        simp (decide := true) only [rright_ev, h1, h2, h2', Try.f54, rid, kl54_5, kl54_12, ↓sBp, sBq, List.all_cons, List.all_nil, List.map_cons, List.map_nil, D.shape, Sh.sub, Sh.size, List.getElem?_cons_zero, List.getElem?_cons_succ, Option.bind_some, Option.bind_none, Option.getD_some, Option.getD_none, V.keysIn, V.kill, V.has, decide_eq_true_eq, beq_iff_eq, bne_iff_ne, ne_eq, Bool.not_eq_true', Bool.and_true, Bool.and_self, Bool.true_and, if_true, if_false, reduceIte, Bool.false_eq_true, decide_true, decide_false, beq_self_eq_true, Bool.not_true, Bool.not_false, true_and, and_true, and_self, List.append_assoc, List.nil_append, List.cons_append, Int.toNat_natCast, ck, Int.cast_ofNat_Int, Int.reduceToNat, bne_self_eq_false, Bool.or_false, Bool.false_or, Bool.false_and, Bool.and_false, Bool.or_true, Bool.true_or]
      · have h2' : (j != k.self) = true := by rw [bne, h2]; rfl
        simp (decide := true) only [rright_ev, h1, h2, h2', Try.f54, rid, kl54_5, kl54_12, ↓sBp, sBq, List.all_cons, List.all_nil, List.map_cons, List.map_nil, D.shape, Sh.sub, Sh.size, List.getElem?_cons_zero, List.getElem?_cons_succ, Option.bind_some, Option.bind_none, Option.getD_some, Option.getD_none, V.keysIn, V.kill, V.has, decide_eq_true_eq, beq_iff_eq, bne_iff_ne, ne_eq, Bool.not_eq_true', Bool.and_true, Bool.and_self, Bool.true_and, if_true, if_false, reduceIte, Bool.false_eq_true, decide_true, decide_false, beq_self_eq_true, Bool.not_true, Bool.not_false, true_and, and_true, and_self, List.append_assoc, List.nil_append, List.cons_append, Int.toNat_natCast, ck, Int.cast_ofNat_Int, Int.reduceToNat, bne_self_eq_false, Bool.or_false, Bool.false_or, Bool.false_and, Bool.and_false, Bool.or_true, Bool.true_or]
    · simp (decide := true) only [rright_ev, h1, Try.f54, rid, kl54_5, kl54_12, ↓sBp, sBq, List.all_cons, List.all_nil, List.map_cons, List.map_nil, D.shape, Sh.sub, Sh.size, List.getElem?_cons_zero, List.getElem?_cons_succ, Option.bind_some, Option.bind_none, Option.getD_some, Option.getD_none, V.keysIn, V.kill, V.has, decide_eq_true_eq, beq_iff_eq, bne_iff_ne, ne_eq, Bool.not_eq_true', Bool.and_true, Bool.and_self, Bool.true_and, if_true, if_false, reduceIte, Bool.false_eq_true, decide_true, decide_false, beq_self_eq_true, Bool.not_true, Bool.not_false, true_and, and_true, and_self, List.append_assoc, List.nil_append, List.cons_append, Int.toNat_natCast, ck, Int.cast_ofNat_Int, Int.reduceToNat, bne_self_eq_false, Bool.or_false, Bool.false_or, Bool.false_and, Bool.and_false, Bool.or_true, Bool.true_or]
  have h21 : a.eval (.tmp 21) = .bool (!(right j && (j != k.self))) := (r.tm 21).2
  cases hb : (right j && (j != k.self)) with
  | false =>
    rw [hb] at h21
    refine wp_cond_true h21 ?_
    refine wp_seq ?_
    refine pieceR (b := ([4], [4])) (s' := ⟨tab .junk [(4, .sl (.tg 4) shW [])], tab none [(4, some .row)]⟩) (fn := 54) (lf := loopFuel) env_ok hcallX (by kernel_rfl) ?e4 r hn (fun a w φ r hn => ?_)
    case e4 => simp (decide := true) only [Try.f54, rid, kl54_5, kl54_12, ↓sBp, sBq, List.all_cons, List.all_nil, List.map_cons, List.map_nil, D.shape, Sh.sub, Sh.size, List.getElem?_cons_zero, List.getElem?_cons_succ, Option.bind_some, Option.bind_none, Option.getD_some, Option.getD_none, V.keysIn, V.kill, V.has, decide_eq_true_eq, beq_iff_eq, bne_iff_ne, ne_eq, Bool.not_eq_true', Bool.and_true, Bool.and_self, Bool.true_and, if_true, if_false, reduceIte, Bool.false_eq_true, decide_true, decide_false, beq_self_eq_true, Bool.not_true, Bool.not_false, true_and, and_true, and_self, List.append_assoc, List.nil_append, List.cons_append, Int.toNat_natCast, ck, Int.cast_ofNat_Int, Int.reduceToNat, bne_self_eq_false, Bool.or_false, Bool.false_or, Bool.false_and, Bool.and_false, Bool.or_true, Bool.true_or]
    refine wp_ret ?_
    rw [wList_no hb]
    exact ⟨r.dfr, _, res4 rfl rfl w, _, rfl, r.bel, (r.tm 4).2.1⟩
  | true =>
    rw [hb] at h21
    refine wp_cond_false h21 (wp_skip ?_)
    refine wp_seq ?_
    refine wp_seq ?_
    refine pieceR (b := ([1, 2, 5, 24, 25, 26], [2, 5, 24])) (s' := ⟨tab .junk [(1, .d (.s (.int .i64 (j)))), (2, .ptr 2 (shK) [] (shK)), (5, .sl (.tg 5) shW []), (24, .sl (.tg 24) cI (ints (listTo k.up 16))), (25, .d (.s (.int .i64 ((listTo k.up 16).length)))), (26, .d (.s (.int .i64 (0))))], tab none [(2, some (.box (knV k))), (5, some .row), (24, some .row)]⟩) (fn := 54) (lf := loopFuel) env_ok hcallX (by kernel_rfl) ?e5 r hn (fun a w φ r hn => ?_)
    case e5 =>
      have hle := ints_length (listTo k.up 16)
      simp (decide := true) only [rup_ev, hle, Try.f54, rid, kl54_5, kl54_12, ↓sBp, sBq, List.all_cons, List.all_nil, List.map_cons, List.map_nil, D.shape, Sh.sub, Sh.size, List.getElem?_cons_zero, List.getElem?_cons_succ, Option.bind_some, Option.bind_none, Option.getD_some, Option.getD_none, V.keysIn, V.kill, V.has, decide_eq_true_eq, beq_iff_eq, bne_iff_ne, ne_eq, Bool.not_eq_true', Bool.and_true, Bool.and_self, Bool.true_and, if_true, if_false, reduceIte, Bool.false_eq_true, decide_true, decide_false, beq_self_eq_true, Bool.not_true, Bool.not_false, true_and, and_true, and_self, List.append_assoc, List.nil_append, List.cons_append, Int.toNat_natCast, ck, Int.cast_ofNat_Int, Int.reduceToNat, bne_self_eq_false, Bool.or_false, Bool.false_or, Bool.false_and, Bool.and_false, Bool.or_true, Bool.true_or]
    have r5 := (r.tm 5).2.1
    have start : WR W (ws (waysS k j 0)) (a.tmps.getD 5 undef) 100 (T0 k j 0 (a.tmps.getD 5 undef)) a w := by
      refine ⟨(r.rebase [1, 2, 5, 24, 25, 26]).see (i := 5) (v := .d (.s (a.tmps.getD 5 undef))) ⟨r5.one, rfl⟩ (fun q hq => ?_) rfl rfl, r5, hn, r.bel⟩
      show tab V.junk _ q = tab V.junk _ q
      simp only [tab, if_neg hq, List.map_cons, List.map_nil]
      rfl
    refine wp_block (wp_loop_rounds ((listTo k.up 16).length + 1) (rounds_ref k j (W := W) (fun u a w h => ?_) (listTo k.up 16).length 0 (by omega) _ a w start))
    refine wp_seq ?_
    refine h.piece (b := ([4], [])) (s' := ⟨tab .junk [(4, .d (.s u))], tab none []⟩) (s'' := ⟨tab .junk [(4, .d (.s u))], tab none []⟩) (fn := 54) (by kernel_rfl) ?e6 rfl (fun a w h => ?_)
    case e6 => simp (decide := true) only [Try.f54, rid, kl54_5, kl54_12, ↓sBp, sBq, List.all_cons, List.all_nil, List.map_cons, List.map_nil, D.shape, Sh.sub, Sh.size, List.getElem?_cons_zero, List.getElem?_cons_succ, Option.bind_some, Option.bind_none, Option.getD_some, Option.getD_none, V.keysIn, V.kill, V.has, decide_eq_true_eq, beq_iff_eq, bne_iff_ne, ne_eq, Bool.not_eq_true', Bool.and_true, Bool.and_self, Bool.true_and, if_true, if_false, reduceIte, Bool.false_eq_true, decide_true, decide_false, beq_self_eq_true, Bool.not_true, Bool.not_false, true_and, and_true, and_self, List.append_assoc, List.nil_append, List.cons_append, Int.toNat_natCast, ck, Int.cast_ofNat_Int, Int.reduceToNat, bne_self_eq_false, Bool.or_false, Bool.false_or, Bool.false_and, Bool.and_false, Bool.or_true, Bool.true_or]
    refine wp_ret ?_
    have e : wList k j = waysS k j (listTo k.up 16).length := by unfold wList; rw [if_pos hb]
    rw [e]
    exact ⟨h.rel.dfr, u, res4 rfl (h.slot (i := 4) rfl) w, u, rfl, h.bel, h.row⟩
end Go.Proofs.Ytfbaikkadndckaa.Ev
