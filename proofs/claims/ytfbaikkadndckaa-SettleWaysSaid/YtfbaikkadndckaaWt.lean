/- settle.Ways: collected, and sorted. -/
import Derived.Test.YtfbaikkadndckaaWy
import Derived.Test.YtfbaikkadndckaaWu
namespace Go.Proofs.Ytfbaikkadndckaa.Ev
open Go
attribute [local congr] ob_congr sq_congr cd_congr ite_congr1 iter_congr it1_congr jumps_congr
set_option maxRecDepth 100000
set_option linter.unusedSimpArgs false
set_option linter.unusedVariables false
open Go.RowKit
theorem waysFn : ∃ fn, Try.prog.funcs[53]? = some fn ∧ fn.body.isNone = false ∧ (fn.name == "runtime.NumGoroutine") = false := ⟨Try.f53, Try.func53, by kernel_rfl, by kernel_rfl⟩
theorem dpW : env.dp 53 7 = [] := nr rfl
theorem ws_snoc (l : List (Int × Int)) (x : Int × Int) : ws l ++ [wayD x.1 x.2] = ws (l ++ [x]) := by unfold ws; rw [List.map_append]; rfl
noncomputable def collC : Code := match Try.f53.body with
  | some (.seq _ (.seq _ (.seq _ (.seq c _)))) => c
  | _ => .skip
set_option maxHeartbeats 4000000 in
theorem coll_ev (k : Kn) (j : Int) : fgt ([5], [5]) (evC env (evF Try.prog env xt 9) 53 loopFuel collC ⟨tab .junk [(1, .d (.s (.int .i64 (j)))), (2, .ptr 2 (shK) [] (shK)), (5, .sl (.tg 5) shW [])], tab none [(2, some (.box (knV k))), (5, some .row)]⟩) =
    some (.normal, ⟨tab .junk [(5, .sl (.tg 5) shW (ws (waysU k j (listTo k.up 16).length)))], tab none [(5, some .row)]⟩) := by
  have hle := ints_length (listTo k.up 16)
  have hlen := listTo_len k.up 16
  simp (decide := true) only [collC, up_ev, hle, Try.f53, rid, kl53_5, ↓sBp, sBq, List.all_cons, List.all_nil, List.map_cons, List.map_nil, D.shape, Sh.sub, Sh.size, List.getElem?_cons_zero, List.getElem?_cons_succ, Option.bind_some, Option.bind_none, Option.getD_some, Option.getD_none, V.keysIn, V.kill, V.has, decide_eq_true_eq, beq_iff_eq, bne_iff_ne, ne_eq, Bool.not_eq_true', Bool.and_true, Bool.and_self, Bool.true_and, if_true, if_false, reduceIte, Bool.false_eq_true, decide_true, decide_false, beq_self_eq_true, Bool.not_true, Bool.not_false, true_and, and_true, and_self, List.append_assoc, List.nil_append, List.cons_append, Int.toNat_natCast, ck, Int.cast_ofNat_Int, Int.reduceToNat, bne_self_eq_false, Bool.or_false, Bool.false_or, Bool.false_and, Bool.and_false, Bool.or_true, Bool.true_or]
  rw [iter_run (S := fun i => ⟨tab .junk [(1, .d (.s (.int .i64 (j)))), (2, .ptr 2 (shK) [] (shK)), (5, .sl (.tg 5) shW (ws (waysU k j i))), (21, .sl (.tg 21) cI (ints (listTo k.up 16))), (22, .d (.s (.int .i64 ((listTo k.up 16).length)))), (23, .d (.s (.int .i64 (i))))], tab none [(2, some (.box (knV k))), (5, some .row), (21, some .row), (57, none)]⟩) (n := (listTo k.up 16).length) (h0 := ?h0) (hn := ?hn) (step := ?step)]
  case h0 => rfl
  case hn => exact lt_loopFuel (by omega)
  case step =>
    intro i hi
    obtain ⟨n, hn, hh, he⟩ := listTo_get k.up hi
    have hi1 : (i : Int) < ((listTo k.up 16).length : Int) := by omega
    have hi0 : (0 : Int) ≤ i := by omega
    have hiw := wrap_succ i (by omega)
    have hg := ints_get he
    have hn0 : (0 : Int) ≤ (n : Int) := by omega
    have hn1 : (n : Int) < 16 := by omega
    have hs := waysU_succ k j i he
    have hU : (ws (waysU k j i)).length ≤ 100 := by
      rw [ws_len']
      unfold waysU
      rw [List.length_map]
      exact Nat.le_trans (List.length_filter_le _ _) (by rw [List.length_take]; omega)
    have hc := app_ok (sh := shW) (ws (waysU k j i)) 16 (by omega) (by omega)
    have ht : gd (k.tD n) j = tol k n j := rfl
    have hk : ofF k.up k.c n = kc k n := rfl
    have hx := ws_snoc (waysU k j i) (wayOf k j n)
    have hx2 : (wayOf k j n).2 = IntKind.u32.wrap (tol k n j + kc k n) := rfl
    have hx1 : (wayOf k j n).1 = n := rfl
    rw [hx1, hx2] at hx
    rcases Bool.eq_false_or_eq_true ((n : Int) != k.self) with c1 | c1
    · rcases Bool.eq_false_or_eq_true (decide (1 ≤ kc k n) && decide (kc k n ≤ 65536)) with c2 | c2
      · by_cases c3 : tol k n j ≤ 983040
        · have hb : wayC k j n = true := by unfold wayC; rw [c1, c2, decide_eq_true c3]; rfl
          rw [hb, if_pos rfl] at hs
          simp (decide := true) only [dpW, hi1, hi0, hiw, hg, hn0, hn1, of_ev, hk, get_ev, ht, sright_ev, short_ev, c1, c2, c3, rep1, List.length_singleton, hc, hx, hs, Try.f53, rid, kl53_5, ↓sBp, sBq, List.all_cons, List.all_nil, List.map_cons, List.map_nil, D.shape, Sh.sub, Sh.size, List.getElem?_cons_zero, List.getElem?_cons_succ, Option.bind_some, Option.bind_none, Option.getD_some, Option.getD_none, V.keysIn, V.kill, V.has, decide_eq_true_eq, beq_iff_eq, bne_iff_ne, ne_eq, Bool.not_eq_true', Bool.and_true, Bool.and_self, Bool.true_and, if_true, if_false, reduceIte, Bool.false_eq_true, decide_true, decide_false, beq_self_eq_true, Bool.not_true, Bool.not_false, true_and, and_true, and_self, List.append_assoc, List.nil_append, List.cons_append, Int.toNat_natCast, ck, Int.cast_ofNat_Int, Int.reduceToNat, bne_self_eq_false, Bool.or_false, Bool.false_or, Bool.false_and, Bool.and_false, Bool.or_true, Bool.true_or]
        · have hb : wayC k j n = false := by unfold wayC; rw [decide_eq_false c3]; simp
          rw [hb, if_neg Bool.false_ne_true] at hs
          simp (decide := true) only [dpW, hi1, hi0, hiw, hg, hn0, hn1, of_ev, hk, get_ev, ht, sright_ev, short_ev, c1, c2, c3, hs, Try.f53, rid, kl53_5, ↓sBp, sBq, List.all_cons, List.all_nil, List.map_cons, List.map_nil, D.shape, Sh.sub, Sh.size, List.getElem?_cons_zero, List.getElem?_cons_succ, Option.bind_some, Option.bind_none, Option.getD_some, Option.getD_none, V.keysIn, V.kill, V.has, decide_eq_true_eq, beq_iff_eq, bne_iff_ne, ne_eq, Bool.not_eq_true', Bool.and_true, Bool.and_self, Bool.true_and, if_true, if_false, reduceIte, Bool.false_eq_true, decide_true, decide_false, beq_self_eq_true, Bool.not_true, Bool.not_false, true_and, and_true, and_self, List.append_assoc, List.nil_append, List.cons_append, Int.toNat_natCast, ck, Int.cast_ofNat_Int, Int.reduceToNat, bne_self_eq_false, Bool.or_false, Bool.false_or, Bool.false_and, Bool.and_false, Bool.or_true, Bool.true_or]
      · have hb : wayC k j n = false := by unfold wayC; rw [c2]; simp
        rw [hb, if_neg Bool.false_ne_true] at hs
        simp (decide := true) only [dpW, hi1, hi0, hiw, hg, hn0, hn1, of_ev, hk, get_ev, ht, sright_ev, c1, c2, hs, Try.f53, rid, kl53_5, ↓sBp, sBq, List.all_cons, List.all_nil, List.map_cons, List.map_nil, D.shape, Sh.sub, Sh.size, List.getElem?_cons_zero, List.getElem?_cons_succ, Option.bind_some, Option.bind_none, Option.getD_some, Option.getD_none, V.keysIn, V.kill, V.has, decide_eq_true_eq, beq_iff_eq, bne_iff_ne, ne_eq, Bool.not_eq_true', Bool.and_true, Bool.and_self, Bool.true_and, if_true, if_false, reduceIte, Bool.false_eq_true, decide_true, decide_false, beq_self_eq_true, Bool.not_true, Bool.not_false, true_and, and_true, and_self, List.append_assoc, List.nil_append, List.cons_append, Int.toNat_natCast, ck, Int.cast_ofNat_Int, Int.reduceToNat, bne_self_eq_false, Bool.or_false, Bool.false_or, Bool.false_and, Bool.and_false, Bool.or_true, Bool.true_or]
    · have hb : wayC k j n = false := by unfold wayC; rw [c1]; rfl
      rw [hb, if_neg Bool.false_ne_true] at hs
      simp (decide := true) only [dpW, hi1, hi0, hiw, hg, hn0, hn1, of_ev, hk, get_ev, ht, c1, hs, Try.f53, rid, kl53_5, ↓sBp, sBq, List.all_cons, List.all_nil, List.map_cons, List.map_nil, D.shape, Sh.sub, Sh.size, List.getElem?_cons_zero, List.getElem?_cons_succ, Option.bind_some, Option.bind_none, Option.getD_some, Option.getD_none, V.keysIn, V.kill, V.has, decide_eq_true_eq, beq_iff_eq, bne_iff_ne, ne_eq, Bool.not_eq_true', Bool.and_true, Bool.and_self, Bool.true_and, if_true, if_false, reduceIte, Bool.false_eq_true, decide_true, decide_false, beq_self_eq_true, Bool.not_true, Bool.not_false, true_and, and_true, and_self, List.append_assoc, List.nil_append, List.cons_append, Int.toNat_natCast, ck, Int.cast_ofNat_Int, Int.reduceToNat, bne_self_eq_false, Bool.or_false, Bool.false_or, Bool.false_and, Bool.and_false, Bool.or_true, Bool.true_or]
  simp (decide := true) only [Int.lt_irrefl, Try.f53, rid, kl53_5, ↓sBp, sBq, List.all_cons, List.all_nil, List.map_cons, List.map_nil, D.shape, Sh.sub, Sh.size, List.getElem?_cons_zero, List.getElem?_cons_succ, Option.bind_some, Option.bind_none, Option.getD_some, Option.getD_none, V.keysIn, V.kill, V.has, decide_eq_true_eq, beq_iff_eq, bne_iff_ne, ne_eq, Bool.not_eq_true', Bool.and_true, Bool.and_self, Bool.true_and, if_true, if_false, reduceIte, Bool.false_eq_true, decide_true, decide_false, beq_self_eq_true, Bool.not_true, Bool.not_false, true_and, and_true, and_self, List.append_assoc, List.nil_append, List.cons_append, Int.toNat_natCast, ck, Int.cast_ofNat_Int, Int.reduceToNat, bne_self_eq_false, Bool.or_false, Bool.false_or, Bool.false_and, Bool.and_false, Bool.or_true, Bool.true_or]
theorem wp_enter {P : Program} {o : Oper} {a : Act} {w : World} {g : Nat} {args : Array Value} (h : (execOp a.eval o).run P w = .ok (.enter g args) w) {K : Act → World → Prop} {Q : Exit → Act → World → Prop}
    (hc : Calls P g args w fun e w' => ∃ u, e = .returned u ∧ K (a.put o.dst u) w') : o.wp P a w K Q := by
  unfold Oper.wp
  rw [h, Oper.upon_enter]
  exact hc.mono fun en w' ⟨u, hu, hk⟩ => by subst hu; exact hk
theorem sortFn : ∃ fn, Try.prog.funcs[107]? = some fn ∧ fn.body.isNone = false ∧ (fn.name == "runtime.NumGoroutine") = false := ⟨Try.f107, Try.func107, by kernel_rfl, by kernel_rfl⟩
theorem ways_ok (k : Kn) (j : Int) : CallOK Try.prog 53 [.d (knV k), .d (.s (.int .i64 (j)))] (.sl .ro shW (ws (wList k j))) := by
  refine ⟨waysFn, fun W vs hra => ?_⟩
  have hl := (RA_at hra).1
  have hlen := listTo_len k.up 16
  refine calls_of_wp Try.func53 rfl ?_
  have r0 := enter_rel hra 62
  have hn0 : ({ tmps := vs.toArray ++ Array.replicate (62 - vs.toArray.size) undef, defers := [] } : Act).tmps.size = 62 := by simp at hl ⊢; omega
  refine wp_seq ?_
  refine pieceR (b := ([1, 2], [2])) (s' := ⟨tab .junk [(1, .d (.s (.int .i64 (j)))), (2, .ptr 2 (shK) [] (shK))], tab none [(2, some (.box (knV k)))]⟩) (fn := 53) (lf := loopFuel) env_ok hcallX (by kernel_rfl) ?e1 r0 hn0 (fun a w φ r hn => ?_)
  case e1 => simp (decide := true) only [Try.f53, rid, kl53_5, ↓sBp, sBq, List.all_cons, List.all_nil, List.map_cons, List.map_nil, D.shape, Sh.sub, Sh.size, List.getElem?_cons_zero, List.getElem?_cons_succ, Option.bind_some, Option.bind_none, Option.getD_some, Option.getD_none, V.keysIn, V.kill, V.has, decide_eq_true_eq, beq_iff_eq, bne_iff_ne, ne_eq, Bool.not_eq_true', Bool.and_true, Bool.and_self, Bool.true_and, if_true, if_false, reduceIte, Bool.false_eq_true, decide_true, decide_false, beq_self_eq_true, Bool.not_true, Bool.not_false, true_and, and_true, and_self, List.append_assoc, List.nil_append, List.cons_append, Int.toNat_natCast, ck, Int.cast_ofNat_Int, Int.reduceToNat, bne_self_eq_false, Bool.or_false, Bool.false_or, Bool.false_and, Bool.and_false, Bool.or_true, Bool.true_or]
  refine wp_seq ?_
  refine wp_seq ?_
  refine pieceR (b := ([1, 2, 18], [2])) (s' := ⟨tab .junk [(1, .d (.s (.int .i64 (j)))), (2, .ptr 2 (shK) [] (shK)), (18, .d (.s (.bool (!(right j && (j != k.self))))))], tab none [(2, some (.box (knV k)))]⟩) (fn := 53) (lf := loopFuel) env_ok hcallX (by kernel_rfl) ?e3 r hn (fun a w φ r hn => ?_)
  case e3 =>
    rcases Bool.eq_false_or_eq_true (right j) with h1 | h1
    · rcases Bool.eq_false_or_eq_true (j == k.self) with h2 | h2
      · have h2' : (j != k.self) = false := by rw [bne, h2]; rfl
        simp (decide := true) only [right_ev, h1, h2, h2', Try.f53, rid, kl53_5, ↓sBp, sBq, List.all_cons, List.all_nil, List.map_cons, List.map_nil, D.shape, Sh.sub, Sh.size, List.getElem?_cons_zero, List.getElem?_cons_succ, Option.bind_some, Option.bind_none, Option.getD_some, Option.getD_none, V.keysIn, V.kill, V.has, decide_eq_true_eq, beq_iff_eq, bne_iff_ne, ne_eq, Bool.not_eq_true', Bool.and_true, Bool.and_self, Bool.true_and, if_true, if_false, reduceIte, Bool.false_eq_true, decide_true, decide_false, beq_self_eq_true, Bool.not_true, Bool.not_false, true_and, and_true, and_self, List.append_assoc, List.nil_append, List.cons_append, Int.toNat_natCast, ck, Int.cast_ofNat_Int, Int.reduceToNat, bne_self_eq_false, Bool.or_false, Bool.false_or, Bool.false_and, Bool.and_false, Bool.or_true, Bool.true_or]
      · have h2' : (j != k.self) = true := by rw [bne, h2]; rfl
        simp (decide := true) only [right_ev, h1, h2, h2', Try.f53, rid, kl53_5, ↓sBp, sBq, List.all_cons, List.all_nil, List.map_cons, List.map_nil, D.shape, Sh.sub, Sh.size, List.getElem?_cons_zero, List.getElem?_cons_succ, Option.bind_some, Option.bind_none, Option.getD_some, Option.getD_none, V.keysIn, V.kill, V.has, decide_eq_true_eq, beq_iff_eq, bne_iff_ne, ne_eq, Bool.not_eq_true', Bool.and_true, Bool.and_self, Bool.true_and, if_true, if_false, reduceIte, Bool.false_eq_true, decide_true, decide_false, beq_self_eq_true, Bool.not_true, Bool.not_false, true_and, and_true, and_self, List.append_assoc, List.nil_append, List.cons_append, Int.toNat_natCast, ck, Int.cast_ofNat_Int, Int.reduceToNat, bne_self_eq_false, Bool.or_false, Bool.false_or, Bool.false_and, Bool.and_false, Bool.or_true, Bool.true_or]
    · simp (decide := true) only [right_ev, h1, Try.f53, rid, kl53_5, ↓sBp, sBq, List.all_cons, List.all_nil, List.map_cons, List.map_nil, D.shape, Sh.sub, Sh.size, List.getElem?_cons_zero, List.getElem?_cons_succ, Option.bind_some, Option.bind_none, Option.getD_some, Option.getD_none, V.keysIn, V.kill, V.has, decide_eq_true_eq, beq_iff_eq, bne_iff_ne, ne_eq, Bool.not_eq_true', Bool.and_true, Bool.and_self, Bool.true_and, if_true, if_false, reduceIte, Bool.false_eq_true, decide_true, decide_false, beq_self_eq_true, Bool.not_true, Bool.not_false, true_and, and_true, and_self, List.append_assoc, List.nil_append, List.cons_append, Int.toNat_natCast, ck, Int.cast_ofNat_Int, Int.reduceToNat, bne_self_eq_false, Bool.or_false, Bool.false_or, Bool.false_and, Bool.and_false, Bool.or_true, Bool.true_or]
  have h18 : a.eval (.tmp 18) = .bool (!(right j && (j != k.self))) := (r.tm 18).2
  cases hb : (right j && (j != k.self)) with
  | false =>
    rw [hb] at h18
    refine wp_cond_true h18 ?_
    refine wp_seq ?_
    refine pieceR (b := ([4], [4])) (s' := ⟨tab .junk [(4, .sl (.tg 4) shW [])], tab none [(4, some .row)]⟩) (fn := 53) (lf := loopFuel) env_ok hcallX (by kernel_rfl) ?e4 r hn (fun a w φ r hn => ?_)
    case e4 => simp (decide := true) only [Try.f53, rid, kl53_5, ↓sBp, sBq, List.all_cons, List.all_nil, List.map_cons, List.map_nil, D.shape, Sh.sub, Sh.size, List.getElem?_cons_zero, List.getElem?_cons_succ, Option.bind_some, Option.bind_none, Option.getD_some, Option.getD_none, V.keysIn, V.kill, V.has, decide_eq_true_eq, beq_iff_eq, bne_iff_ne, ne_eq, Bool.not_eq_true', Bool.and_true, Bool.and_self, Bool.true_and, if_true, if_false, reduceIte, Bool.false_eq_true, decide_true, decide_false, beq_self_eq_true, Bool.not_true, Bool.not_false, true_and, and_true, and_self, List.append_assoc, List.nil_append, List.cons_append, Int.toNat_natCast, ck, Int.cast_ofNat_Int, Int.reduceToNat, bne_self_eq_false, Bool.or_false, Bool.false_or, Bool.false_and, Bool.and_false, Bool.or_true, Bool.true_or]
    refine wp_ret ?_
    rw [wList_no hb]
    exact ⟨r.dfr, _, res4 rfl rfl w, _, rfl, r.bel, (r.tm 4).2.1⟩
  | true =>
    rw [hb] at h18
    refine wp_cond_false h18 (wp_skip ?_)
    refine wp_seq ?_
    refine pieceR (b := ([1, 2, 5], [2, 5])) (s' := ⟨tab .junk [(1, .d (.s (.int .i64 (j)))), (2, .ptr 2 (shK) [] (shK)), (5, .sl (.tg 5) shW [])], tab none [(2, some (.box (knV k))), (5, some .row)]⟩) (fn := 53) (lf := loopFuel) env_ok hcallX (by kernel_rfl) ?e5 r hn (fun a w φ r hn => ?_)
    case e5 => simp (decide := true) only [Try.f53, rid, kl53_5, ↓sBp, sBq, List.all_cons, List.all_nil, List.map_cons, List.map_nil, D.shape, Sh.sub, Sh.size, List.getElem?_cons_zero, List.getElem?_cons_succ, Option.bind_some, Option.bind_none, Option.getD_some, Option.getD_none, V.keysIn, V.kill, V.has, decide_eq_true_eq, beq_iff_eq, bne_iff_ne, ne_eq, Bool.not_eq_true', Bool.and_true, Bool.and_self, Bool.true_and, if_true, if_false, reduceIte, Bool.false_eq_true, decide_true, decide_false, beq_self_eq_true, Bool.not_true, Bool.not_false, true_and, and_true, and_self, List.append_assoc, List.nil_append, List.cons_append, Int.toNat_natCast, ck, Int.cast_ofNat_Int, Int.reduceToNat, bne_self_eq_false, Bool.or_false, Bool.false_or, Bool.false_and, Bool.and_false, Bool.or_true, Bool.true_or]
    refine wp_seq ?_
    refine pieceR (b := ([5], [5])) (fn := 53) (lf := loopFuel) env_ok hcallX (by kernel_rfl) (coll_ev k j) r hn (fun a w φ r hn => ?_)
    have r5 := (r.tm 5).2.1
    have hU : (waysU k j (listTo k.up 16).length).length ≤ 1000 := by
      unfold waysU
      rw [List.length_map]
      exact Nat.le_trans (List.length_filter_le _ _) (by rw [List.length_take]; omega)
    obtain ⟨hp, hs⟩ := waysS_ok k j _ (Nat.le_refl _)
    have e : wList k j = waysS k j (listTo k.up 16).length := by unfold wList; rw [if_pos hb]
    rw [← e] at hp hs
    have r5 : RO w W.heap.size shW (ws (waysU k j (listTo k.up 16).length)) (a.tmps.getD 5 undef) := r5
    generalize hu : a.tmps.getD 5 undef = u at r5
    refine wp_seq ?_
    refine wp_region ?_
    show wpOps _ _ _ [0, 1] a w
    refine wpOps_cons rfl rfl ?_
    refine Yields.value (w' := w) (u := u) (R := fun x y => x = u ∧ y = w) ?_ ⟨rfl, rfl⟩ _ _ (fun x y hxy => ?_)
    · have e1 : a.eval (.tmp 5) = u := hu
      show ((pure (.value (a.eval (.tmp 5))) : Sem Next)).run Try.prog w = _
      rw [e1]; rfl
    obtain ⟨rfl, rfl⟩ := hxy
    have z : ∀ q, q < 62 → q < a.tmps.size := fun q hq => by omega
    refine wpOps_cons rfl rfl ?_
    have e59 : (a.put (some 59) x).eval (.tmp 59) = x := by
      show (a.put (some 59) x).tmps.getD 59 undef = x
      rw [put_get a 59 x (z 59 (by omega)), if_pos rfl]
    have hB : W.heap.size ≤ y.heap.size := r.base
    refine wp_enter (g := 107) (args := #[x, .func (.func 108) #[] #[]]) ?_ ((sort_row r5 hB hU hp hs).mono fun e w' ⟨h1, h2, h3⟩ => ⟨_, h1, ?_⟩)
    · obtain ⟨fn, hfn, hbody, hname⟩ := sortFn
      have ea : ∀ ev : Operand → Value, (#[Operand.tmp 59, Operand.func 108].map ev) = #[ev (.tmp 59), ev (.func 108)] := fun ev => by simp
      have ef : Act.eval (a.put (some 59) x) (.func 107) = .func (.func 107) #[] #[] := rfl
      show ((do let d ← resolve (Act.eval (a.put (some 59) x)) ⟨.value (.func 107), #[.tmp 59, .func 108], #[78, 152]⟩ 0; invoke d.target d.args : Sem Next)).run Try.prog y = _
      simp only [resolve, ef, Deferred.ofValue, invoke, callFunc, Sem.run_bind, Sem.run_pure, Result.andThen_ok, run_program, hfn, hname, hbody, Bool.false_eq_true, if_false, Array.empty_append]
      rw [ea, e59]
      rfl
    have h : WR W (ws (wList k j)) x 62 ⟨tab .junk [(5, .d (.s x))], tab none []⟩ ((a.put (some 59) x).put (some 60) (.tuple #[])) w' := by
      refine ⟨⟨?_, fun i => ?_, Below.refl _ _, Nat.le_refl _, (fun k x h => by cases h), (fun k k' g h => by cases h), (fun k g h => by cases h), Fr.refl _ _⟩, h2, by rw [put_size, put_size]; exact hn, r.bel.trans h3⟩
      · rw [put_dfr, put_dfr]; exact r.dfr
      · by_cases hi : i = 5
        · subst hi
          refine ⟨r5.one, ?_⟩
          rw [put_get _ 60 _ (by rw [put_size]; exact z 60 (by omega)), if_neg (by decide), put_get a 59 x (z 59 (by omega)), if_neg (by decide)]
          exact hu
        · simp only [tab, if_neg hi]
          trivial
    refine wp_seq ?_
    refine h.piece (b := ([4], [])) (s' := ⟨tab .junk [(4, .d (.s x))], tab none []⟩) (s'' := ⟨tab .junk [(4, .d (.s x))], tab none []⟩) (fn := 53) (by kernel_rfl) ?e6 rfl (fun a w h => ?_)
    case e6 => simp (decide := true) only [Try.f53, rid, kl53_5, ↓sBp, sBq, List.all_cons, List.all_nil, List.map_cons, List.map_nil, D.shape, Sh.sub, Sh.size, List.getElem?_cons_zero, List.getElem?_cons_succ, Option.bind_some, Option.bind_none, Option.getD_some, Option.getD_none, V.keysIn, V.kill, V.has, decide_eq_true_eq, beq_iff_eq, bne_iff_ne, ne_eq, Bool.not_eq_true', Bool.and_true, Bool.and_self, Bool.true_and, if_true, if_false, reduceIte, Bool.false_eq_true, decide_true, decide_false, beq_self_eq_true, Bool.not_true, Bool.not_false, true_and, and_true, and_self, List.append_assoc, List.nil_append, List.cons_append, Int.toNat_natCast, ck, Int.cast_ofNat_Int, Int.reduceToNat, bne_self_eq_false, Bool.or_false, Bool.false_or, Bool.false_and, Bool.and_false, Bool.or_true, Bool.true_or]
    refine wp_ret ?_
    exact ⟨h.rel.dfr, x, res4 rfl (h.slot (i := 4) rfl) w, x, rfl, h.bel, h.row⟩
end Go.Proofs.Ytfbaikkadndckaa.Ev
