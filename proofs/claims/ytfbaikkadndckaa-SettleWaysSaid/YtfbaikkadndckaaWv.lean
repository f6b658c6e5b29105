/- fingerpostref27.Ways: every turn puts a way in behind all that are not farther. -/
import Derived.Test.YtfbaikkadndckaaWz
namespace Go.Proofs.Ytfbaikkadndckaa.Ev
open Go
attribute [local congr] ob_congr sq_congr cd_congr ite_congr1 iter_congr it1_congr jumps_congr
set_option maxRecDepth 100000
set_option linter.unusedSimpArgs false
set_option linter.unusedVariables false
open Go.RowKit
noncomputable def roundR : Code := match Try.f54.body with
  | some (.seq _ (.seq _ (.seq _ (.seq (.seq _ (.block _ (.loop c))) _)))) => c
  | _ => .skip
theorem app_ok2 (a c b : Nat) (hb : b ≤ 64) (h : a + c ≤ 1000000) : ((a + c) * b ≤ 140737488355328 ∧ a + c ≤ maxLen) = True := by
  unfold maxLen
  have : (a + c) * b ≤ 1000000 * 64 := Nat.mul_le_mul h hb
  simp only [eq_iff_iff, iff_true]
  omega
theorem ws_len' (l : List (Int × Int)) : (ws l).length = l.length := List.length_map ..
theorem ws_ins (w : Int × Int) (l : List (Int × Int)) : ws (insW w l) = (ws l).take (atW w l l.length) ++ wayD w.1 w.2 :: (ws l).drop (atW w l l.length) := by
  unfold insW ws
  rw [List.map_append, List.map_cons, List.map_take, List.map_drop]
section
variable (k : Kn) (j : Int)
abbrev T0 (i : Nat) (u : Value) : St := ⟨tab .junk [(1, .d (.s (.int .i64 (j)))), (2, .ep .ro shK (knV k)), (5, .d (.s u)), (24, .sl .ro cI (ints (listTo k.up 16))), (25, .d (.s (.int .i64 ((listTo k.up 16).length)))), (26, .d (.s (.int .i64 (i))))], tab none []⟩
abbrev T1 (i : Nat) (u : Value) (b : Bool) : St := ⟨tab .junk [(1, .d (.s (.int .i64 (j)))), (2, .ep .ro shK (knV k)), (5, .d (.s u)), (24, .sl .ro cI (ints (listTo k.up 16))), (25, .d (.s (.int .i64 ((listTo k.up 16).length)))), (26, .d (.s (.int .i64 (i)))), (27, .d (.s (.bool (b))))], tab none []⟩
abbrev T2 (i : Nat) (u : Value) (n : Int) : St := ⟨tab .junk [(1, .d (.s (.int .i64 (j)))), (2, .ep .ro shK (knV k)), (5, .d (.s u)), (7, .d (.s (.int .i64 (n)))), (24, .sl .ro cI (ints (listTo k.up 16))), (25, .d (.s (.int .i64 ((listTo k.up 16).length)))), (26, .d (.s (.int .i64 (i))))], tab none []⟩
abbrev T3 (i : Nat) (u : Value) (n : Int) : St := ⟨tab .junk [(1, .d (.s (.int .i64 (j)))), (2, .ep .ro shK (knV k)), (5, .d (.s u)), (7, .d (.s (.int .i64 (n)))), (8, .d (.s (.int .u32 (tol k n j)))), (24, .sl .ro cI (ints (listTo k.up 16))), (25, .d (.s (.int .i64 ((listTo k.up 16).length)))), (26, .d (.s (.int .i64 (i))))], tab none []⟩
abbrev T4 (i : Nat) (u : Value) (n : Int) : St := ⟨tab .junk [(1, .d (.s (.int .i64 (j)))), (2, .ep .ro shK (knV k)), (5, .d (.s u)), (7, .d (.s (.int .i64 (n)))), (8, .d (.s (.int .u32 (tol k n j)))), (9, .d (.s (.int .u32 (kc k n)))), (24, .sl .ro cI (ints (listTo k.up 16))), (25, .d (.s (.int .i64 ((listTo k.up 16).length)))), (26, .d (.s (.int .i64 (i))))], tab none []⟩
abbrev T5 (i : Nat) (u : Value) (n : Int) (b : Bool) : St := ⟨tab .junk [(1, .d (.s (.int .i64 (j)))), (2, .ep .ro shK (knV k)), (5, .d (.s u)), (7, .d (.s (.int .i64 (n)))), (8, .d (.s (.int .u32 (tol k n j)))), (9, .d (.s (.int .u32 (kc k n)))), (24, .sl .ro cI (ints (listTo k.up 16))), (25, .d (.s (.int .i64 ((listTo k.up 16).length)))), (26, .d (.s (.int .i64 (i)))), (61, .d (.s (.bool (b))))], tab none []⟩
abbrev T6 (i : Nat) (l : List (Int × Int)) (n : Int) : St := ⟨tab .junk [(1, .d (.s (.int .i64 (j)))), (2, .ep .ro shK (knV k)), (5, .sl .ro shW (ws l)), (7, .d (.s (.int .i64 (n)))), (8, .d (.s (.int .u32 (tol k n j)))), (9, .d (.s (.int .u32 (kc k n)))), (24, .sl .ro cI (ints (listTo k.up 16))), (25, .d (.s (.int .i64 ((listTo k.up 16).length)))), (26, .d (.s (.int .i64 (i))))], tab none []⟩
abbrev T7 (i : Nat) (es : List D) : St := ⟨tab .junk [(1, .d (.s (.int .i64 (j)))), (2, .ep .ro shK (knV k)), (5, .sl (.tg 84) shW es), (24, .sl .ro cI (ints (listTo k.up 16))), (25, .d (.s (.int .i64 ((listTo k.up 16).length)))), (26, .d (.s (.int .i64 (i))))], tab none [(84, some .row)]⟩
noncomputable def insC : Code := match roundR with
  | .seq _ (.seq _ (.seq (.block _ (.seq _ (.seq _ (.seq _ (.seq _ c))))) _)) => c
  | _ => .skip
theorem dpR : env.dp 54 12 = [] := nr rfl
set_option maxHeartbeats 4000000 in
theorem ins_ev (i : Nat) (l : List (Int × Int)) (hl : l.length ≤ 100) (n : Int) :
    fgt ([1, 2, 5, 24, 25, 26], [84]) (evC env (evF Try.prog env xt 9) 54 loopFuel insC (T6 k j i l n)) = some (.normal, T7 k j i (ws (insW (wayOf k j n) l))) := by
  have hle := atW_le (wayOf k j n) l l.length
  have hup := atW_up (wayOf k j n) l l.length
  have hat := atW_at (wayOf k j n) l l.length
  have hws := ws_len' l
  rw [ws_ins]
  generalize hm : atW (wayOf k j n) l l.length = m at hle hup hat
  have hget : ∀ q, q < l.length → (ws l)[q]? = some (wayD (l.getD q (0, 0)).1 (l.getD q (0, 0)).2) := fun q hq => by
    simp [List.getD, List.getElem?_eq_getElem hq]
  have hw2 : (wayOf k j n).2 = IntKind.u32.wrap (tol k n j + kc k n) := rfl
  have hw1 : (wayOf k j n).1 = n := rfl
  have ht : (ws l).length = l.length := hws
  show fgt _ (evC env (evF Try.prog env xt 9) 54 loopFuel (match roundR with | .seq _ (.seq _ (.seq (.block _ (.seq _ (.seq _ (.seq _ (.seq _ c))))) _)) => c | _ => .skip) (T6 k j i l n)) = _
  simp (decide := true) only [roundR, ht, Try.f54, rid, kl54_5, kl54_12, ↓sBp, sBq, List.all_cons, List.all_nil, List.map_cons, List.map_nil, D.shape, Sh.sub, Sh.size, List.getElem?_cons_zero, List.getElem?_cons_succ, Option.bind_some, Option.bind_none, Option.getD_some, Option.getD_none, V.keysIn, V.kill, V.has, decide_eq_true_eq, beq_iff_eq, bne_iff_ne, ne_eq, Bool.not_eq_true', Bool.and_true, Bool.and_self, Bool.true_and, if_true, if_false, reduceIte, Bool.false_eq_true, decide_true, decide_false, beq_self_eq_true, Bool.not_true, Bool.not_false, true_and, and_true, and_self, List.append_assoc, List.nil_append, List.cons_append, Int.toNat_natCast, ck, Int.cast_ofNat_Int, Int.reduceToNat, bne_self_eq_false, Bool.or_false, Bool.false_or, Bool.false_and, Bool.and_false, Bool.or_true, Bool.true_or]
  rw [iter_run (S := fun q => ⟨tab .junk [(1, .d (.s (.int .i64 (j)))), (2, .ep .ro shK (knV k)), (5, .sl .ro shW (ws l)), (10, .ptr 10 (shW) [] (shW)), (11, .d (.s (.int .i64 ((l.length - q : Nat))))), (24, .sl .ro cI (ints (listTo k.up 16))), (25, .d (.s (.int .i64 ((listTo k.up 16).length)))), (26, .d (.s (.int .i64 (i))))], tab none [(2, none), (5, none), (10, some (.box (wayD n (IntKind.u32.wrap (tol k n j + kc k n))))), (24, none), (84, none), (88, none), (92, none), (97, none)]⟩) (n := (l.length - m)) (h0 := ?h0) (hn := ?hn) (step := ?step)]
  case h0 => rfl
  case hn => exact lt_loopFuel (by omega)
  case step =>
    intro q hq
    have a1 : (0 : Int) < ((l.length - q : Nat) : Int) := by omega
    have a2 : IntKind.i64.wrap (((l.length - q : Nat) : Int) - 1) = ((l.length - q - 1 : Nat) : Int) := by rw [wrap_id (by omega)]; omega
    have a3 : (0 : Int) ≤ ((l.length - q - 1 : Nat) : Int) := by omega
    have a4 := hget (l.length - q - 1) (by omega)
    have a5 := hup (l.length - q - 1) (by omega) (by omega)
    rw [hw2] at a5
    have a6 : l.length - (q + 1) = l.length - q - 1 := by omega
    simp (decide := true) only [dpR, a1, a2, a3, a4, a5, a6, Try.f54, rid, kl54_5, kl54_12, ↓sBp, sBq, List.all_cons, List.all_nil, List.map_cons, List.map_nil, D.shape, Sh.sub, Sh.size, List.getElem?_cons_zero, List.getElem?_cons_succ, Option.bind_some, Option.bind_none, Option.getD_some, Option.getD_none, V.keysIn, V.kill, V.has, decide_eq_true_eq, beq_iff_eq, bne_iff_ne, ne_eq, Bool.not_eq_true', Bool.and_true, Bool.and_self, Bool.true_and, if_true, if_false, reduceIte, Bool.false_eq_true, decide_true, decide_false, beq_self_eq_true, Bool.not_true, Bool.not_false, true_and, and_true, and_self, List.append_assoc, List.nil_append, List.cons_append, Int.toNat_natCast, ck, Int.cast_ofNat_Int, Int.reduceToNat, bne_self_eq_false, Bool.or_false, Bool.false_or, Bool.false_and, Bool.and_false, Bool.or_true, Bool.true_or]
  have e0 : l.length - (l.length - m) = m := by omega
  have c1 := app_ok2 0 (((ws l).take m).drop 0).length 16 (by omega) (by rw [List.length_drop, List.length_take, ht]; omega)
  by_cases hz : m = 0
  · subst hz
    simp (decide := true) only [dpR, e0, Try.f54, rid, kl54_5, kl54_12, ↓sBp, sBq, List.all_cons, List.all_nil, List.map_cons, List.map_nil, D.shape, Sh.sub, Sh.size, List.getElem?_cons_zero, List.getElem?_cons_succ, Option.bind_some, Option.bind_none, Option.getD_some, Option.getD_none, V.keysIn, V.kill, V.has, decide_eq_true_eq, beq_iff_eq, bne_iff_ne, ne_eq, Bool.not_eq_true', Bool.and_true, Bool.and_self, Bool.true_and, if_true, if_false, reduceIte, Bool.false_eq_true, decide_true, decide_false, beq_self_eq_true, Bool.not_true, Bool.not_false, true_and, and_true, and_self, List.append_assoc, List.nil_append, List.cons_append, Int.toNat_natCast, ck, Int.cast_ofNat_Int, Int.reduceToNat, bne_self_eq_false, Bool.or_false, Bool.false_or, Bool.false_and, Bool.and_false, Bool.or_true, Bool.true_or]
    simp only [List.replicate_zero, List.nil_append, List.drop_zero, List.take_length, rep1]
    rw [if_pos (by omega), if_pos (of_eq_true (app_ok2 _ _ 16 (by omega) (by simp only [List.length_nil, List.length_take]; omega))), if_pos (of_eq_true (app_ok2 _ _ 16 (by omega) (by simp only [List.length_singleton, List.length_take]; omega))),
      if_pos (by omega), if_pos (of_eq_true (app_ok2 _ _ 16 (by omega) (by simp only [List.length_singleton, List.length_append, List.length_drop, List.length_take]; omega)))]
    rfl
  · have b1 : (0 : Int) < (m : Int) := by omega
    have b2 : IntKind.i64.wrap ((m : Int) - 1) = ((m - 1 : Nat) : Int) := by rw [wrap_id (by omega)]; omega
    have b3 : (0 : Int) ≤ ((m - 1 : Nat) : Int) := by omega
    have b4 := hget (m - 1) (by omega)
    have b5 := hat (by omega)
    rw [hw2] at b5
    simp (decide := true) only [dpR, e0, b1, b2, b3, b4, b5, Try.f54, rid, kl54_5, kl54_12, ↓sBp, sBq, List.all_cons, List.all_nil, List.map_cons, List.map_nil, D.shape, Sh.sub, Sh.size, List.getElem?_cons_zero, List.getElem?_cons_succ, Option.bind_some, Option.bind_none, Option.getD_some, Option.getD_none, V.keysIn, V.kill, V.has, decide_eq_true_eq, beq_iff_eq, bne_iff_ne, ne_eq, Bool.not_eq_true', Bool.and_true, Bool.and_self, Bool.true_and, if_true, if_false, reduceIte, Bool.false_eq_true, decide_true, decide_false, beq_self_eq_true, Bool.not_true, Bool.not_false, true_and, and_true, and_self, List.append_assoc, List.nil_append, List.cons_append, Int.toNat_natCast, ck, Int.cast_ofNat_Int, Int.reduceToNat, bne_self_eq_false, Bool.or_false, Bool.false_or, Bool.false_and, Bool.and_false, Bool.or_true, Bool.true_or]
    simp only [List.replicate_zero, List.nil_append, List.drop_zero, List.take_length, rep1]
    rw [if_pos (by omega), if_pos (of_eq_true (app_ok2 _ _ 16 (by omega) (by simp only [List.length_nil, List.length_take]; omega))), if_pos (of_eq_true (app_ok2 _ _ 16 (by omega) (by simp only [List.length_singleton, List.length_take]; omega))),
      if_pos (by omega), if_pos (of_eq_true (app_ok2 _ _ 16 (by omega) (by simp only [List.length_singleton, List.length_append, List.length_drop, List.length_take]; omega)))]
    rfl
theorem T5_ev (i : Nat) (u : Value) (n : Int) : fgt ([1, 2, 5, 7, 8, 9, 24, 25, 26, 61], []) (evC env (evF Try.prog env xt 9) 54 loopFuel (match roundR with | .seq _ (.seq _ (.seq (.block _ (.seq _ (.seq _ (.seq _ (.seq (.seq c _) _))))) _)) => c | _ => .skip) (T4 k j i u n)) = some (.normal, T5 k j i u n (!wayC k j n)) := by
  rcases Bool.eq_false_or_eq_true (n == k.self) with c1 | c1
  · have hb : wayC k j n = false := by unfold wayC; rw [bne, c1]; rfl
    simp (decide := true) only [roundR, c1, hb, Try.f54, rid, kl54_5, kl54_12, ↓sBp, sBq, List.all_cons, List.all_nil, List.map_cons, List.map_nil, D.shape, Sh.sub, Sh.size, List.getElem?_cons_zero, List.getElem?_cons_succ, Option.bind_some, Option.bind_none, Option.getD_some, Option.getD_none, V.keysIn, V.kill, V.has, decide_eq_true_eq, beq_iff_eq, bne_iff_ne, ne_eq, Bool.not_eq_true', Bool.and_true, Bool.and_self, Bool.true_and, if_true, if_false, reduceIte, Bool.false_eq_true, decide_true, decide_false, beq_self_eq_true, Bool.not_true, Bool.not_false, true_and, and_true, and_self, List.append_assoc, List.nil_append, List.cons_append, Int.toNat_natCast, ck, Int.cast_ofNat_Int, Int.reduceToNat, bne_self_eq_false, Bool.or_false, Bool.false_or, Bool.false_and, Bool.and_false, Bool.or_true, Bool.true_or]
  rcases Bool.eq_false_or_eq_true (tol k n j == 4294967295) with c2 | c2
  · have c2' : tol k n j = 4294967295 := by simpa using c2
    have hb : wayC k j n = false := by unfold wayC; rw [c2']; simp
    simp (decide := true) only [roundR, c1, c2, hb, Try.f54, rid, kl54_5, kl54_12, ↓sBp, sBq, List.all_cons, List.all_nil, List.map_cons, List.map_nil, D.shape, Sh.sub, Sh.size, List.getElem?_cons_zero, List.getElem?_cons_succ, Option.bind_some, Option.bind_none, Option.getD_some, Option.getD_none, V.keysIn, V.kill, V.has, decide_eq_true_eq, beq_iff_eq, bne_iff_ne, ne_eq, Bool.not_eq_true', Bool.and_true, Bool.and_self, Bool.true_and, if_true, if_false, reduceIte, Bool.false_eq_true, decide_true, decide_false, beq_self_eq_true, Bool.not_true, Bool.not_false, true_and, and_true, and_self, List.append_assoc, List.nil_append, List.cons_append, Int.toNat_natCast, ck, Int.cast_ofNat_Int, Int.reduceToNat, bne_self_eq_false, Bool.or_false, Bool.false_or, Bool.false_and, Bool.and_false, Bool.or_true, Bool.true_or]
  by_cases c3 : tol k n j ≤ 983040
  case neg =>
    have hb : wayC k j n = false := by unfold wayC; rw [decide_eq_false c3]; simp
    simp (decide := true) only [roundR, c1, c2, c3, hb, rshort_ev, Try.f54, rid, kl54_5, kl54_12, ↓sBp, sBq, List.all_cons, List.all_nil, List.map_cons, List.map_nil, D.shape, Sh.sub, Sh.size, List.getElem?_cons_zero, List.getElem?_cons_succ, Option.bind_some, Option.bind_none, Option.getD_some, Option.getD_none, V.keysIn, V.kill, V.has, decide_eq_true_eq, beq_iff_eq, bne_iff_ne, ne_eq, Bool.not_eq_true', Bool.and_true, Bool.and_self, Bool.true_and, if_true, if_false, reduceIte, Bool.false_eq_true, decide_true, decide_false, beq_self_eq_true, Bool.not_true, Bool.not_false, true_and, and_true, and_self, List.append_assoc, List.nil_append, List.cons_append, Int.toNat_natCast, ck, Int.cast_ofNat_Int, Int.reduceToNat, bne_self_eq_false, Bool.or_false, Bool.false_or, Bool.false_and, Bool.and_false, Bool.or_true, Bool.true_or]
  by_cases c4 : kc k n < 1
  · have hb : wayC k j n = false := by unfold wayC; rw [decide_eq_false (show ¬ 1 ≤ kc k n by omega)]; simp
    simp (decide := true) only [roundR, c1, c2, c3, c4, hb, rshort_ev, Try.f54, rid, kl54_5, kl54_12, ↓sBp, sBq, List.all_cons, List.all_nil, List.map_cons, List.map_nil, D.shape, Sh.sub, Sh.size, List.getElem?_cons_zero, List.getElem?_cons_succ, Option.bind_some, Option.bind_none, Option.getD_some, Option.getD_none, V.keysIn, V.kill, V.has, decide_eq_true_eq, beq_iff_eq, bne_iff_ne, ne_eq, Bool.not_eq_true', Bool.and_true, Bool.and_self, Bool.true_and, if_true, if_false, reduceIte, Bool.false_eq_true, decide_true, decide_false, beq_self_eq_true, Bool.not_true, Bool.not_false, true_and, and_true, and_self, List.append_assoc, List.nil_append, List.cons_append, Int.toNat_natCast, ck, Int.cast_ofNat_Int, Int.reduceToNat, bne_self_eq_false, Bool.or_false, Bool.false_or, Bool.false_and, Bool.and_false, Bool.or_true, Bool.true_or]
  by_cases c5 : kc k n > 65536
  · have hb : wayC k j n = false := by unfold wayC; rw [decide_eq_false (show ¬ kc k n ≤ 65536 by omega)]; simp
    simp (decide := true) only [roundR, c1, c2, c3, c4, c5, hb, rshort_ev, Try.f54, rid, kl54_5, kl54_12, ↓sBp, sBq, List.all_cons, List.all_nil, List.map_cons, List.map_nil, D.shape, Sh.sub, Sh.size, List.getElem?_cons_zero, List.getElem?_cons_succ, Option.bind_some, Option.bind_none, Option.getD_some, Option.getD_none, V.keysIn, V.kill, V.has, decide_eq_true_eq, beq_iff_eq, bne_iff_ne, ne_eq, Bool.not_eq_true', Bool.and_true, Bool.and_self, Bool.true_and, if_true, if_false, reduceIte, Bool.false_eq_true, decide_true, decide_false, beq_self_eq_true, Bool.not_true, Bool.not_false, true_and, and_true, and_self, List.append_assoc, List.nil_append, List.cons_append, Int.toNat_natCast, ck, Int.cast_ofNat_Int, Int.reduceToNat, bne_self_eq_false, Bool.or_false, Bool.false_or, Bool.false_and, Bool.and_false, Bool.or_true, Bool.true_or]
  · have hb : wayC k j n = true := by unfold wayC; rw [bne, c1, decide_eq_true c3, decide_eq_true (show 1 ≤ kc k n by omega), decide_eq_true (show kc k n ≤ 65536 by omega)]; rfl
    simp (decide := true) only [roundR, c1, c2, c3, c4, c5, hb, rshort_ev, Try.f54, rid, kl54_5, kl54_12, ↓sBp, sBq, List.all_cons, List.all_nil, List.map_cons, List.map_nil, D.shape, Sh.sub, Sh.size, List.getElem?_cons_zero, List.getElem?_cons_succ, Option.bind_some, Option.bind_none, Option.getD_some, Option.getD_none, V.keysIn, V.kill, V.has, decide_eq_true_eq, beq_iff_eq, bne_iff_ne, ne_eq, Bool.not_eq_true', Bool.and_true, Bool.and_self, Bool.true_and, if_true, if_false, reduceIte, Bool.false_eq_true, decide_true, decide_false, beq_self_eq_true, Bool.not_true, Bool.not_false, true_and, and_true, and_self, List.append_assoc, List.nil_append, List.cons_append, Int.toNat_natCast, ck, Int.cast_ofNat_Int, Int.reduceToNat, bne_self_eq_false, Bool.or_false, Bool.false_or, Bool.false_and, Bool.and_false, Bool.or_true, Bool.true_or]
theorem round_ref {i : Nat} (hi : i < (listTo k.up 16).length) {W w : World} {u : Value} {Q : Exit → Act → World → Prop} {a : Act} (h : WR W (ws (waysS k j i)) u 100 (T0 k j i u) a w)
    (hQ : ∀ u' a' w', WR W (ws (waysS k j (i + 1))) u' 100 (T0 k j (i + 1) u') a' w' → Q .normal a' w') : roundR.wp Try.prog Q a w := by
  obtain ⟨m, hm, hh, he⟩ := listTo_get k.up hi
  have hi1 : (i : Int) < ((listTo k.up 16).length : Int) := by omega
  have hi0 : (0 : Int) ≤ i := by omega
  have hlen := listTo_len k.up 16
  have hiw := wrap_succ i (by omega)
  have hg := ints_get he
  have hm0 : (0 : Int) ≤ (m : Int) := by omega
  have hm1 : (m : Int) < 16 := by omega
  have hs := waysS_succ k j i he
  have hS : (waysS k j i).length ≤ 100 := by
    rw [(waysS_ok k j i (by omega)).1.length_eq]
    unfold waysU
    rw [List.length_map]
    exact Nat.le_trans (List.length_filter_le _ _) (by rw [List.length_take]; omega)
  refine wp_seq ?_
  refine h.piece (b := ([1, 2, 5, 24, 25, 26, 27], [])) (s' := T1 k j i u true) (s'' := T1 k j i u true) (fn := 54) (by kernel_rfl) ?e1 rfl (fun a w h => ?_)
  case e1 => simp (decide := true) only [hi1, Try.f54, rid, kl54_5, kl54_12, ↓sBp, sBq, List.all_cons, List.all_nil, List.map_cons, List.map_nil, D.shape, Sh.sub, Sh.size, List.getElem?_cons_zero, List.getElem?_cons_succ, Option.bind_some, Option.bind_none, Option.getD_some, Option.getD_none, V.keysIn, V.kill, V.has, decide_eq_true_eq, beq_iff_eq, bne_iff_ne, ne_eq, Bool.not_eq_true', Bool.and_true, Bool.and_self, Bool.true_and, if_true, if_false, reduceIte, Bool.false_eq_true, decide_true, decide_false, beq_self_eq_true, Bool.not_true, Bool.not_false, true_and, and_true, and_self, List.append_assoc, List.nil_append, List.cons_append, Int.toNat_natCast, ck, Int.cast_ofNat_Int, Int.reduceToNat, bne_self_eq_false, Bool.or_false, Bool.false_or, Bool.false_and, Bool.and_false, Bool.or_true, Bool.true_or]
  refine wp_seq ?_
  refine wp_cond_true (h.slot (i := 27) rfl) (wp_skip ?_)
  refine wp_seq ?_
  refine wp_block ?_
  refine wp_seq ?_
  refine h.piece (b := ([1, 2, 5, 7, 24, 25, 26], [])) (s' := T2 k j i u m) (s'' := T2 k j i u m) (fn := 54) (by kernel_rfl) ?e2 rfl (fun a w h => ?_)
  case e2 => simp (decide := true) only [hi0, hg, Try.f54, rid, kl54_5, kl54_12, ↓sBp, sBq, List.all_cons, List.all_nil, List.map_cons, List.map_nil, D.shape, Sh.sub, Sh.size, List.getElem?_cons_zero, List.getElem?_cons_succ, Option.bind_some, Option.bind_none, Option.getD_some, Option.getD_none, V.keysIn, V.kill, V.has, decide_eq_true_eq, beq_iff_eq, bne_iff_ne, ne_eq, Bool.not_eq_true', Bool.and_true, Bool.and_self, Bool.true_and, if_true, if_false, reduceIte, Bool.false_eq_true, decide_true, decide_false, beq_self_eq_true, Bool.not_true, Bool.not_false, true_and, and_true, and_self, List.append_assoc, List.nil_append, List.cons_append, Int.toNat_natCast, ck, Int.cast_ofNat_Int, Int.reduceToNat, bne_self_eq_false, Bool.or_false, Bool.false_or, Bool.false_and, Bool.and_false, Bool.or_true, Bool.true_or]
  refine wp_seq ?_
  refine h.piece (b := ([1, 2, 5, 7, 8, 24, 25, 26], [])) (s' := T3 k j i u m) (s'' := T3 k j i u m) (fn := 54) (by kernel_rfl) ?e3 rfl (fun a w h => ?_)
  case e3 =>
    simp (decide := true) only [hm0, hm1, rget_ev, tol, Try.f54, rid, kl54_5, kl54_12, ↓sBp, sBq, List.all_cons, List.all_nil, List.map_cons, List.map_nil, D.shape, Sh.sub, Sh.size, List.getElem?_cons_zero, List.getElem?_cons_succ, Option.bind_some, Option.bind_none, Option.getD_some, Option.getD_none, V.keysIn, V.kill, V.has, decide_eq_true_eq, beq_iff_eq, bne_iff_ne, ne_eq, Bool.not_eq_true', Bool.and_true, Bool.and_self, Bool.true_and, if_true, if_false, reduceIte, Bool.false_eq_true, decide_true, decide_false, beq_self_eq_true, Bool.not_true, Bool.not_false, true_and, and_true, and_self, List.append_assoc, List.nil_append, List.cons_append, Int.toNat_natCast, ck, Int.cast_ofNat_Int, Int.reduceToNat, bne_self_eq_false, Bool.or_false, Bool.false_or, Bool.false_and, Bool.and_false, Bool.or_true, Bool.true_or]
    rfl
  refine wp_seq ?_
  refine h.piece (b := ([1, 2, 5, 7, 8, 9, 24, 25, 26], [])) (s' := T4 k j i u m) (s'' := T4 k j i u m) (fn := 54) (by kernel_rfl) ?e4 rfl (fun a w h => ?_)
  case e4 =>
    simp (decide := true) only [rof_ev, kc, Try.f54, rid, kl54_5, kl54_12, ↓sBp, sBq, List.all_cons, List.all_nil, List.map_cons, List.map_nil, D.shape, Sh.sub, Sh.size, List.getElem?_cons_zero, List.getElem?_cons_succ, Option.bind_some, Option.bind_none, Option.getD_some, Option.getD_none, V.keysIn, V.kill, V.has, decide_eq_true_eq, beq_iff_eq, bne_iff_ne, ne_eq, Bool.not_eq_true', Bool.and_true, Bool.and_self, Bool.true_and, if_true, if_false, reduceIte, Bool.false_eq_true, decide_true, decide_false, beq_self_eq_true, Bool.not_true, Bool.not_false, true_and, and_true, and_self, List.append_assoc, List.nil_append, List.cons_append, Int.toNat_natCast, ck, Int.cast_ofNat_Int, Int.reduceToNat, bne_self_eq_false, Bool.or_false, Bool.false_or, Bool.false_and, Bool.and_false, Bool.or_true, Bool.true_or]
    rfl
  refine wp_seq ?_
  refine wp_seq ?_
  refine h.piece (b := ([1, 2, 5, 7, 8, 9, 24, 25, 26, 61], [])) (s' := T5 k j i u m (!wayC k j m)) (s'' := T5 k j i u m (!wayC k j m)) (fn := 54) (by kernel_rfl) (T5_ev k j i u m) rfl (fun a w h => ?_)
  cases hc : wayC k j m with
  | false =>
    rw [hc] at h
    refine wp_cond_true (h.slot (i := 61) rfl) (wp_exit ?_)
    refine h.piece (b := ([1, 2, 5, 24, 25, 26], [])) (s' := T0 k j (i + 1) u) (s'' := T0 k j (i + 1) u) (fn := 54) (by kernel_rfl) ?e5 rfl (fun a w h => hQ u a w ?_)
    case e5 => simp (decide := true) only [hiw, Try.f54, rid, kl54_5, kl54_12, ↓sBp, sBq, List.all_cons, List.all_nil, List.map_cons, List.map_nil, D.shape, Sh.sub, Sh.size, List.getElem?_cons_zero, List.getElem?_cons_succ, Option.bind_some, Option.bind_none, Option.getD_some, Option.getD_none, V.keysIn, V.kill, V.has, decide_eq_true_eq, beq_iff_eq, bne_iff_ne, ne_eq, Bool.not_eq_true', Bool.and_true, Bool.and_self, Bool.true_and, if_true, if_false, reduceIte, Bool.false_eq_true, decide_true, decide_false, beq_self_eq_true, Bool.not_true, Bool.not_false, true_and, and_true, and_self, List.append_assoc, List.nil_append, List.cons_append, Int.toNat_natCast, ck, Int.cast_ofNat_Int, Int.reduceToNat, bne_self_eq_false, Bool.or_false, Bool.false_or, Bool.false_and, Bool.and_false, Bool.or_true, Bool.true_or]
    rw [hs, hc]; exact h
  | true =>
    rw [hc] at h
    refine wp_cond_false (h.slot (i := 61) rfl) (wp_skip ?_)
    have h : WR W (ws (waysS k j i)) u 100 (T4 k j i u m) a w := h.forget (b := ([1, 2, 5, 7, 8, 9, 24, 25, 26], [])) (by simp (decide := true) only [Try.f54, rid, kl54_5, kl54_12, ↓sBp, sBq, List.all_cons, List.all_nil, List.map_cons, List.map_nil, D.shape, Sh.sub, Sh.size, List.getElem?_cons_zero, List.getElem?_cons_succ, Option.bind_some, Option.bind_none, Option.getD_some, Option.getD_none, V.keysIn, V.kill, V.has, decide_eq_true_eq, beq_iff_eq, bne_iff_ne, ne_eq, Bool.not_eq_true', Bool.and_true, Bool.and_self, Bool.true_and, if_true, if_false, reduceIte, Bool.false_eq_true, decide_true, decide_false, beq_self_eq_true, Bool.not_true, Bool.not_false, true_and, and_true, and_self, List.append_assoc, List.nil_append, List.cons_append, Int.toNat_natCast, ck, Int.cast_ofNat_Int, Int.reduceToNat, bne_self_eq_false, Bool.or_false, Bool.false_or, Bool.false_and, Bool.and_false, Bool.or_true, Bool.true_or])
    refine h.piece2 (i := 5) (s1 := T6 k j i (waysS k j i) m) (b := ([1, 2, 5, 24, 25, 26], [84])) (s' := T7 k j i (ws (insW (wayOf k j m) (waysS k j i)))) (S := T0 k j i) (k := 84) (fn := 54) (fun q hq => ?_) rfl rfl rfl (by kernel_rfl) (ins_ev k j i _ hS m) rfl (fun u' => ⟨fun q hq => ?_, rfl, rfl⟩) (fun u' a w h => ?_)
    · simp only [tab, if_neg hq]
    · show tab V.junk _ q = tab V.junk _ q
      simp only [tab, if_neg hq, List.map_cons, List.map_nil]
      rfl
    refine h.piece (b := ([1, 2, 5, 24, 25, 26], [])) (s' := T0 k j (i + 1) u') (s'' := T0 k j (i + 1) u') (fn := 54) (by kernel_rfl) ?e6 rfl (fun a w h => hQ u' a w ?_)
    case e6 => simp (decide := true) only [hiw, Try.f54, rid, kl54_5, kl54_12, ↓sBp, sBq, List.all_cons, List.all_nil, List.map_cons, List.map_nil, D.shape, Sh.sub, Sh.size, List.getElem?_cons_zero, List.getElem?_cons_succ, Option.bind_some, Option.bind_none, Option.getD_some, Option.getD_none, V.keysIn, V.kill, V.has, decide_eq_true_eq, beq_iff_eq, bne_iff_ne, ne_eq, Bool.not_eq_true', Bool.and_true, Bool.and_self, Bool.true_and, if_true, if_false, reduceIte, Bool.false_eq_true, decide_true, decide_false, beq_self_eq_true, Bool.not_true, Bool.not_false, true_and, and_true, and_self, List.append_assoc, List.nil_append, List.cons_append, Int.toNat_natCast, ck, Int.cast_ofNat_Int, Int.reduceToNat, bne_self_eq_false, Bool.or_false, Bool.false_or, Bool.false_and, Bool.and_false, Bool.or_true, Bool.true_or]
    rw [hs, hc]; exact h
theorem rounds_ref {W : World} {Q : Exit → Act → World → Prop} (hQ : ∀ u a w, WR W (ws (waysS k j (listTo k.up 16).length)) u 100 (T1 k j (listTo k.up 16).length u false) a w → Q (.exit 0) a w) :
    ∀ (m i : Nat), i + m = (listTo k.up 16).length → ∀ u a w, WR W (ws (waysS k j i)) u 100 (T0 k j i u) a w → Code.rounds Try.prog roundR Q (m + 1) a w
  | 0, i, hi, u, a, w, h => by
    obtain rfl : i = (listTo k.up 16).length := by omega
    rw [rounds_succ]
    refine wp_seq ?_
    refine h.piece (b := ([1, 2, 5, 24, 25, 26, 27], [])) (s' := T1 k j (listTo k.up 16).length u false) (s'' := T1 k j (listTo k.up 16).length u false) (fn := 54) (by kernel_rfl) ?e1 rfl (fun a w h => ?_)
    case e1 => simp (decide := true) only [Int.lt_irrefl, Try.f54, rid, kl54_5, kl54_12, ↓sBp, sBq, List.all_cons, List.all_nil, List.map_cons, List.map_nil, D.shape, Sh.sub, Sh.size, List.getElem?_cons_zero, List.getElem?_cons_succ, Option.bind_some, Option.bind_none, Option.getD_some, Option.getD_none, V.keysIn, V.kill, V.has, decide_eq_true_eq, beq_iff_eq, bne_iff_ne, ne_eq, Bool.not_eq_true', Bool.and_true, Bool.and_self, Bool.true_and, if_true, if_false, reduceIte, Bool.false_eq_true, decide_true, decide_false, beq_self_eq_true, Bool.not_true, Bool.not_false, true_and, and_true, and_self, List.append_assoc, List.nil_append, List.cons_append, Int.toNat_natCast, ck, Int.cast_ofNat_Int, Int.reduceToNat, bne_self_eq_false, Bool.or_false, Bool.false_or, Bool.false_and, Bool.and_false, Bool.or_true, Bool.true_or]
    refine wp_seq ?_
    exact wp_cond_false (h.slot (i := 27) rfl) (wp_exit (hQ u a w h))
  | m + 1, i, hi, u, a, w, h => by
    rw [rounds_succ]
    exact round_ref k j (by omega) h fun u a w h => rounds_ref hQ m (i + 1) (by omega) u a w h
end
end Go.Proofs.Ytfbaikkadndckaa.Ev
