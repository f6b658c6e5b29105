/- gauge.Sorted: the numbers in order. -/
import Derived.Test.YtfmbchnejelpkaaUg
namespace Go.Proofs.Ytfmbchnejelpkaa.Ev
open Go
attribute [local congr] ob_congr sq_congr cd_congr ite_congr1 iter_congr it1_congr jumps_congr
set_option maxRecDepth 100000
set_option linter.unusedSimpArgs false
set_option linter.unusedVariables false
theorem app_ok2 (a c b : Nat) (hb : b ≤ 64) (h : a + c ≤ 1000000) : ((a + c) * b ≤ 140737488355328 ∧ a + c ≤ maxLen) = True := by
  unfold maxLen
  have : (a + c) * b ≤ 1000000 * 64 := Nat.mul_le_mul h hb
  simp only [eq_iff_iff, iff_true]
  omega
theorem sorts_ev (d N : Nat) (x : Nat → Nat) (hN : N ≤ 60) (hd : N ≤ d) :
    ∃ y, evF Try.prog env xf (d+6) 29 [.d (fa N x), cmpV] = some (.d (fa N y)) ∧ Mv N 0 N x y ∧ Srt y 0 N := by
  obtain ⟨y, r1, r2, r3⟩ := stable_ev d N x hN hd
  refine ⟨y, ?_, r2, r3⟩
  rw [evF_eqM Try.func29 (show Try.f29.body = some _ from rfl) rfl rfl rfl (by show 2 ≤ 9; decide) rfl rfl]
  simp (decide := true) only [r1, Try.f29, rid, ↓sBp, sBq, List.all_cons, List.all_nil, List.map_cons, List.map_nil, D.shape, Sh.sub, Sh.size, List.getElem?_cons_zero, List.getElem?_cons_succ, Option.bind_some, Option.bind_none, Option.getD_some, Option.getD_none, V.keysIn, V.kill, V.has, decide_eq_true_eq, beq_iff_eq, bne_iff_ne, ne_eq, Bool.not_eq_true', Bool.and_true, Bool.and_self, Bool.true_and, if_true, if_false, reduceIte, Bool.false_eq_true, decide_true, decide_false, beq_self_eq_true, Bool.not_true, Bool.not_false, true_and, and_true, and_self, List.append_assoc, List.nil_append, List.cons_append, Int.toNat_natCast, ck, Int.cast_ofNat_Int, Int.reduceToNat, bne_self_eq_false, Bool.or_false, Bool.false_or, Bool.false_and, Bool.and_false, Bool.or_true, Bool.true_or]
theorem mutq_sl (g : Nat) (o : Own) (sh : Sh) (es : List D) (l : List V) : mutq g (.sl o sh es :: l) = false := by unfold mutq; rw [show isArr (.sl o sh es :: l) = false from rfl, Bool.and_false]
theorem ins0_ev (d : Nat) : evF Try.prog env xf (d+1) 36 [.sl .ro cF [], .d (.s (.int .i64 (0))), .d (.s (.int .i64 (0))), cmpV] = some .tnil := by
  rw [evF_eq Try.func36 (show Try.f36.body = some _ from rfl) rfl rfl rfl (by show 4 ≤ 53; decide)]
  have w1 : IntKind.i64.wrap ((0 : Int) + 1) = 1 := rfl
  simp (decide := true) only [w1, Try.f36, rid, kl36_1, kl36_4, dp36_4, dp36_6, ↓sBp, sBq, List.all_cons, List.all_nil, List.map_cons, List.map_nil, D.shape, Sh.sub, Sh.size, List.getElem?_cons_zero, List.getElem?_cons_succ, Option.bind_some, Option.bind_none, Option.getD_some, Option.getD_none, V.keysIn, V.kill, V.has, decide_eq_true_eq, beq_iff_eq, bne_iff_ne, ne_eq, Bool.not_eq_true', Bool.and_true, Bool.and_self, Bool.true_and, if_true, if_false, reduceIte, Bool.false_eq_true, decide_true, decide_false, beq_self_eq_true, Bool.not_true, Bool.not_false, true_and, and_true, and_self, List.append_assoc, List.nil_append, List.cons_append, Int.toNat_natCast, ck, Int.cast_ofNat_Int, Int.reduceToNat, bne_self_eq_false, Bool.or_false, Bool.false_or, Bool.false_and, Bool.and_false, Bool.or_true, Bool.true_or]
  rw [iter_run (S := fun k => ⟨tab .junk [(0, .sl .ro cF []), (1, .d (.s (.int .i64 (0)))), (2, .d (.s (.int .i64 (0)))), (3, cmpV), (8, .d (.s (.int .i64 (1))))], tab none [(53, none)]⟩) (n := 0) (h0 := ?h0) (hn := lt_loopFuel (by decide)) (step := ?step)]
  case h0 => rfl
  case step => intro k hk; omega
  simp (decide := true) only [Try.f36, rid, kl36_1, kl36_4, dp36_4, dp36_6, ↓sBp, sBq, List.all_cons, List.all_nil, List.map_cons, List.map_nil, D.shape, Sh.sub, Sh.size, List.getElem?_cons_zero, List.getElem?_cons_succ, Option.bind_some, Option.bind_none, Option.getD_some, Option.getD_none, V.keysIn, V.kill, V.has, decide_eq_true_eq, beq_iff_eq, bne_iff_ne, ne_eq, Bool.not_eq_true', Bool.and_true, Bool.and_self, Bool.true_and, if_true, if_false, reduceIte, Bool.false_eq_true, decide_true, decide_false, beq_self_eq_true, Bool.not_true, Bool.not_false, true_and, and_true, and_self, List.append_assoc, List.nil_append, List.cons_append, Int.toNat_natCast, ck, Int.cast_ofNat_Int, Int.reduceToNat, bne_self_eq_false, Bool.or_false, Bool.false_or, Bool.false_and, Bool.and_false, Bool.or_true, Bool.true_or]
theorem stable0_ev (d : Nat) : evF Try.prog env xf (d+2) 35 [.sl .ro cF [], .d (.s (.int .i64 (0))), cmpV] = some .tnil := by
  rw [evF_eq Try.func35 (show Try.f35.body = some _ from rfl) rfl rfl rfl (by show 3 ≤ 63; decide)]
  simp (decide := true) only [ins0_ev, callF, mutq_sl, Try.f35, rid, kl35_2, kl35_7, kl35_9, ↓sBp, sBq, List.all_cons, List.all_nil, List.map_cons, List.map_nil, D.shape, Sh.sub, Sh.size, List.getElem?_cons_zero, List.getElem?_cons_succ, Option.bind_some, Option.bind_none, Option.getD_some, Option.getD_none, V.keysIn, V.kill, V.has, decide_eq_true_eq, beq_iff_eq, bne_iff_ne, ne_eq, Bool.not_eq_true', Bool.and_true, Bool.and_self, Bool.true_and, if_true, if_false, reduceIte, Bool.false_eq_true, decide_true, decide_false, beq_self_eq_true, Bool.not_true, Bool.not_false, true_and, and_true, and_self, List.append_assoc, List.nil_append, List.cons_append, Int.toNat_natCast, ck, Int.cast_ofNat_Int, Int.reduceToNat, bne_self_eq_false, Bool.or_false, Bool.false_or, Bool.false_and, Bool.and_false, Bool.or_true, Bool.true_or]
  rw [iter_run (S := fun k => ⟨tab .junk [(0, .sl .ro cF []), (1, .d (.s (.int .i64 (0)))), (2, cmpV), (6, .d (.s (.int .i64 (20)))), (7, .d (.s (.int .i64 (0)))), (8, .d (.s (.int .i64 (20))))], tab none [(63, none)]⟩) (n := 0) (h0 := ?h0) (hn := lt_loopFuel (by decide)) (step := ?step)]
  case h0 => rfl
  case step => intro k hk; omega
  simp (decide := true) only [ins0_ev, callF, mutq_sl, Try.f35, rid, kl35_2, kl35_7, kl35_9, ↓sBp, sBq, List.all_cons, List.all_nil, List.map_cons, List.map_nil, D.shape, Sh.sub, Sh.size, List.getElem?_cons_zero, List.getElem?_cons_succ, Option.bind_some, Option.bind_none, Option.getD_some, Option.getD_none, V.keysIn, V.kill, V.has, decide_eq_true_eq, beq_iff_eq, bne_iff_ne, ne_eq, Bool.not_eq_true', Bool.and_true, Bool.and_self, Bool.true_and, if_true, if_false, reduceIte, Bool.false_eq_true, decide_true, decide_false, beq_self_eq_true, Bool.not_true, Bool.not_false, true_and, and_true, and_self, List.append_assoc, List.nil_append, List.cons_append, Int.toNat_natCast, ck, Int.cast_ofNat_Int, Int.reduceToNat, bne_self_eq_false, Bool.or_false, Bool.false_or, Bool.false_and, Bool.and_false, Bool.or_true, Bool.true_or]
  rw [iter_run (S := fun k => ⟨tab .junk [(0, .sl .ro cF []), (1, .d (.s (.int .i64 (0)))), (2, cmpV), (6, .d (.s (.int .i64 (20))))], tab none [(63, none)]⟩) (n := 0) (h0 := ?h0) (hn := lt_loopFuel (by decide)) (step := ?step)]
  case h0 => rfl
  case step => intro k hk; omega
  simp (decide := true) only [ins0_ev, callF, mutq_sl, Try.f35, rid, kl35_2, kl35_7, kl35_9, ↓sBp, sBq, List.all_cons, List.all_nil, List.map_cons, List.map_nil, D.shape, Sh.sub, Sh.size, List.getElem?_cons_zero, List.getElem?_cons_succ, Option.bind_some, Option.bind_none, Option.getD_some, Option.getD_none, V.keysIn, V.kill, V.has, decide_eq_true_eq, beq_iff_eq, bne_iff_ne, ne_eq, Bool.not_eq_true', Bool.and_true, Bool.and_self, Bool.true_and, if_true, if_false, reduceIte, Bool.false_eq_true, decide_true, decide_false, beq_self_eq_true, Bool.not_true, Bool.not_false, true_and, and_true, and_self, List.append_assoc, List.nil_append, List.cons_append, Int.toNat_natCast, ck, Int.cast_ofNat_Int, Int.reduceToNat, bne_self_eq_false, Bool.or_false, Bool.false_or, Bool.false_and, Bool.and_false, Bool.or_true, Bool.true_or]
theorem sorts0_ev (d : Nat) : evF Try.prog env xf (d+3) 29 [.sl .ro cF [], cmpV] = some .tnil := by
  rw [evF_eq Try.func29 (show Try.f29.body = some _ from rfl) rfl rfl rfl (by show 2 ≤ 9; decide)]
  have e0 : ((([] : List D).length : Nat) : Int) = 0 := rfl
  simp (decide := true) only [stable0_ev, e0, callF, mutq_sl, Try.f29, rid, ↓sBp, sBq, List.all_cons, List.all_nil, List.map_cons, List.map_nil, D.shape, Sh.sub, Sh.size, List.getElem?_cons_zero, List.getElem?_cons_succ, Option.bind_some, Option.bind_none, Option.getD_some, Option.getD_none, V.keysIn, V.kill, V.has, decide_eq_true_eq, beq_iff_eq, bne_iff_ne, ne_eq, Bool.not_eq_true', Bool.and_true, Bool.and_self, Bool.true_and, if_true, if_false, reduceIte, Bool.false_eq_true, decide_true, decide_false, beq_self_eq_true, Bool.not_true, Bool.not_false, true_and, and_true, and_self, List.append_assoc, List.nil_append, List.cons_append, Int.toNat_natCast, ck, Int.cast_ofNat_Int, Int.reduceToNat, bne_self_eq_false, Bool.or_false, Bool.false_or, Bool.false_and, Bool.and_false, Bool.or_true, Bool.true_or]
def fl (l : List Nat) : List D := l.map dF
theorem fl_good (l : List Nat) : (fl l).length = l.length := List.length_map ..
theorem arr_fl (a : Nat) (l : List Nat) : arrOf cF (dF a) (dF a :: fl l) = fa (l.length + 1) (fun i => (a :: l).getD i a) := by
  unfold arrOf fa
  rw [List.length_cons, fl_good]
  congr 1
  funext i
  show ((a :: l).map dF).getD i (dF a) = _
  simp only [List.getD, List.getElem?_map]
  cases (a :: l)[i]? <;> rfl
theorem listOf_fl (n : Nat) (y : Nat → Nat) : listOf n (fun i => dF (y i)) = fl ((List.range n).map y) := by
  unfold listOf fl; rw [List.map_map]; rfl
theorem gsorted_cons (d a : Nat) (l : List Nat) (hl : l.length + 1 ≤ 60) (hd : l.length + 1 ≤ d) :
    ∃ y, evF Try.prog env xf (d+7) 15 [.sl .ro cF (fl (a :: l))] = some (.sl .ro cF (fl ((List.range (l.length + 1)).map y))) ∧ Mv (l.length + 1) 0 (l.length + 1) (fun i => (a :: l).getD i a) y ∧ Srt y 0 (l.length + 1) := by
  obtain ⟨y, r1, r2, r3⟩ := sorts_ev d (l.length + 1) (fun i => (a :: l).getD i a) hl hd
  refine ⟨y, ?_, r2, r3⟩
  rw [← arr_fl] at r1
  have hlen : (fl l).length = l.length := fl_good l
  have e : fl (a :: l) = dF a :: fl l := rfl
  rw [e]
  rw [evF_eq Try.func15 (show Try.f15.body = some _ from rfl) rfl rfl rfl (by show 1 ≤ 9; decide)]
  have hlen2 : (dF a :: fl l).length = l.length + 1 := by rw [List.length_cons, hlen]
  simp (decide := true) only [r1, listOf_fl, hlen, Try.f15, rid, ↓sBp, sBq, List.all_cons, List.all_nil, List.map_cons, List.map_nil, D.shape, Sh.sub, Sh.size, List.getElem?_cons_zero, List.getElem?_cons_succ, Option.bind_some, Option.bind_none, Option.getD_some, Option.getD_none, V.keysIn, V.kill, V.has, decide_eq_true_eq, beq_iff_eq, bne_iff_ne, ne_eq, Bool.not_eq_true', Bool.and_true, Bool.and_self, Bool.true_and, if_true, if_false, reduceIte, Bool.false_eq_true, decide_true, decide_false, beq_self_eq_true, Bool.not_true, Bool.not_false, true_and, and_true, and_self, List.append_assoc, List.nil_append, List.cons_append, Int.toNat_natCast, ck, Int.cast_ofNat_Int, Int.reduceToNat, bne_self_eq_false, Bool.or_false, Bool.false_or, Bool.false_and, Bool.and_false, Bool.or_true, Bool.true_or]
  rw [if_pos (of_eq_true (app_ok2 _ _ 8 (by omega) (by rw [hlen2]; simp only [List.length_nil]; omega)))]
  simp only [if_pos hlen2]
  rfl
theorem gsorted_nil (d : Nat) : evF Try.prog env xf (d+4) 15 [.sl .ro cF (fl [])] = some (.sl .ro cF (fl [])) := by
  have e : fl [] = [] := rfl
  rw [e]
  rw [evF_eq Try.func15 (show Try.f15.body = some _ from rfl) rfl rfl rfl (by show 1 ≤ 9; decide)]
  simp (decide := true) only [sorts0_ev, callF, mutq_sl, Try.f15, rid, ↓sBp, sBq, List.all_cons, List.all_nil, List.map_cons, List.map_nil, D.shape, Sh.sub, Sh.size, List.getElem?_cons_zero, List.getElem?_cons_succ, Option.bind_some, Option.bind_none, Option.getD_some, Option.getD_none, V.keysIn, V.kill, V.has, decide_eq_true_eq, beq_iff_eq, bne_iff_ne, ne_eq, Bool.not_eq_true', Bool.and_true, Bool.and_self, Bool.true_and, if_true, if_false, reduceIte, Bool.false_eq_true, decide_true, decide_false, beq_self_eq_true, Bool.not_true, Bool.not_false, true_and, and_true, and_self, List.append_assoc, List.nil_append, List.cons_append, Int.toNat_natCast, ck, Int.cast_ofNat_Int, Int.reduceToNat, bne_self_eq_false, Bool.or_false, Bool.false_or, Bool.false_and, Bool.and_false, Bool.or_true, Bool.true_or]
theorem cnt_range (y : Nat → Nat) (v : Nat) : ∀ n, ((List.range n).map y).count v = cntTo y v n
  | 0 => rfl
  | n + 1 => by
    rw [List.range_succ, List.map_append, List.count_append, cnt_range y v n]
    simp only [List.map_cons, List.map_nil, List.count_cons, List.count_nil, cntTo, beq_iff_eq, Nat.zero_add]
theorem range_getD (l : List Nat) (a : Nat) : (List.range l.length).map (fun i => l.getD i a) = l := by
  refine List.ext_getElem (by simp) fun i h1 h2 => ?_
  simp [List.getD, List.getElem?_eq_getElem h2]
def SrtL (L : List Nat) : Prop := ∀ i j, i ≤ j → j < L.length → ord (L.getD i 0) (L.getD j 0) ≤ 0
theorem gsorted_ev (d : Nat) (l : List Nat) (hl : l.length ≤ 60) : ∃ L, evF Try.prog env xf (d+67) 15 [.sl .ro cF (fl l)] = some (.sl .ro cF (fl L)) ∧ L.Perm l ∧ SrtL L := by
  cases l with
  | nil => exact ⟨[], gsorted_nil (d + 63), .nil, fun i j h1 h2 => absurd h2 (by simp)⟩
  | cons a l =>
    obtain ⟨y, r1, r2, r3⟩ := gsorted_cons (d + 60) a l (by simpa using hl) (by simp at hl; omega)
    refine ⟨_, r1, List.perm_iff_count.2 fun v => ?_, fun i j h1 h2 => ?_⟩
    · rw [cnt_range, r2.cnt v, ← cnt_range]
      exact congrArg (List.count v) (range_getD (a :: l) a)
    · have h3 : j < l.length + 1 := by simpa using h2
      have e : ∀ k, k < l.length + 1 → ((List.range (l.length + 1)).map y).getD k 0 = y k := fun k hk => by
        simp [List.getD, List.getElem?_eq_getElem, hk]
      rw [e i (by omega), e j h3]
      exact r3 i j (Nat.zero_le _) h1 h3
end Go.Proofs.Ytfmbchnejelpkaa.Ev
