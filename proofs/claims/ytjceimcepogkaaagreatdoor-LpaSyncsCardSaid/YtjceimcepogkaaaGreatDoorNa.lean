/- What the functions of nodes compute: the evaluator's runs as plain functions; the document's too. -/
import Derived.Test.YtjceimcepogkaaaGreatDoorEvM
import Derived.Test.YtjceimcepogkaaaGreatDoorChecked
import Derived.Test.YtjceimcepogkaaaGreatDoorEnv
import Derived.Test.YtjceimcepogkaaaGreatDoorEvG
import Derived.Test.YtjceimcepogkaaaGreatDoorEvBits
import Derived.KernelRfl
namespace Go.Proofs.YtjceimcepogkaaaGreatDoor.Ev
open Go
attribute [local congr] ob_congr sq_congr cd_congr ite_congr1 iter_congr it1_congr jumps_congr
set_option maxRecDepth 100000
set_option linter.unusedSimpArgs false
set_option linter.unusedVariables false


theorem right_ev (k : Nat) (n : Int) : evF Tryz.prog env xt (k+1) 64 [.d (.s (.int .i64 (n)))] = some (.d (.s (.bool (right n)))) := by
  rw [evF_eq Tryz.func64 (show Tryz.f64.body = some _ from rfl) rfl rfl rfl (by show 1 ≤ 9; decide)]
  by_cases h : 0 ≤ n
  · simp (decide := true) only [h, right, Tryz.f64, rid, ↓sBp, sBq, List.all_cons, List.all_nil, List.map_cons, List.map_nil, D.shape, Sh.sub, Sh.size, List.getElem?_cons_zero, List.getElem?_cons_succ, Option.bind_some, Option.bind_none, Option.getD_some, Option.getD_none, V.keysIn, V.kill, V.has, decide_eq_true_eq, beq_iff_eq, bne_iff_ne, ne_eq, Bool.not_eq_true', Bool.and_true, Bool.and_self, Bool.true_and, if_true, if_false, reduceIte, Bool.false_eq_true, decide_true, decide_false, beq_self_eq_true, Bool.not_true, Bool.not_false, true_and, and_true, and_self, List.append_assoc, List.nil_append, List.cons_append, Int.toNat_natCast, ck, Int.cast_ofNat_Int, Int.reduceToNat, bne_self_eq_false, Bool.or_false, Bool.false_or, Bool.false_and, Bool.and_false, Bool.or_true, Bool.true_or]
  · simp (decide := true) only [h, right, Tryz.f64, rid, ↓sBp, sBq, List.all_cons, List.all_nil, List.map_cons, List.map_nil, D.shape, Sh.sub, Sh.size, List.getElem?_cons_zero, List.getElem?_cons_succ, Option.bind_some, Option.bind_none, Option.getD_some, Option.getD_none, V.keysIn, V.kill, V.has, decide_eq_true_eq, beq_iff_eq, bne_iff_ne, ne_eq, Bool.not_eq_true', Bool.and_true, Bool.and_self, Bool.true_and, if_true, if_false, reduceIte, Bool.false_eq_true, decide_true, decide_false, beq_self_eq_true, Bool.not_true, Bool.not_false, true_and, and_true, and_self, List.append_assoc, List.nil_append, List.cons_append, Int.toNat_natCast, ck, Int.cast_ofNat_Int, Int.reduceToNat, bne_self_eq_false, Bool.or_false, Bool.false_or, Bool.false_and, Bool.and_false, Bool.or_true, Bool.true_or]
theorem rright_ev (k : Nat) (n : Int) : evF Tryz.prog env xt (k+1) 65 [.d (.s (.int .i64 (n)))] = some (.d (.s (.bool (right n)))) := by
  rw [evF_eq Tryz.func65 (show Tryz.f65.body = some _ from rfl) rfl rfl rfl (by show 1 ≤ 9; decide)]
  by_cases h : 0 ≤ n
  · simp (decide := true) only [h, right, Tryz.f65, rid, ↓sBp, sBq, List.all_cons, List.all_nil, List.map_cons, List.map_nil, D.shape, Sh.sub, Sh.size, List.getElem?_cons_zero, List.getElem?_cons_succ, Option.bind_some, Option.bind_none, Option.getD_some, Option.getD_none, V.keysIn, V.kill, V.has, decide_eq_true_eq, beq_iff_eq, bne_iff_ne, ne_eq, Bool.not_eq_true', Bool.and_true, Bool.and_self, Bool.true_and, if_true, if_false, reduceIte, Bool.false_eq_true, decide_true, decide_false, beq_self_eq_true, Bool.not_true, Bool.not_false, true_and, and_true, and_self, List.append_assoc, List.nil_append, List.cons_append, Int.toNat_natCast, ck, Int.cast_ofNat_Int, Int.reduceToNat, bne_self_eq_false, Bool.or_false, Bool.false_or, Bool.false_and, Bool.and_false, Bool.or_true, Bool.true_or]
  · simp (decide := true) only [h, right, Tryz.f65, rid, ↓sBp, sBq, List.all_cons, List.all_nil, List.map_cons, List.map_nil, D.shape, Sh.sub, Sh.size, List.getElem?_cons_zero, List.getElem?_cons_succ, Option.bind_some, Option.bind_none, Option.getD_some, Option.getD_none, V.keysIn, V.kill, V.has, decide_eq_true_eq, beq_iff_eq, bne_iff_ne, ne_eq, Bool.not_eq_true', Bool.and_true, Bool.and_self, Bool.true_and, if_true, if_false, reduceIte, Bool.false_eq_true, decide_true, decide_false, beq_self_eq_true, Bool.not_true, Bool.not_false, true_and, and_true, and_self, List.append_assoc, List.nil_append, List.cons_append, Int.toNat_natCast, ck, Int.cast_ofNat_Int, Int.reduceToNat, bne_self_eq_false, Bool.or_false, Bool.false_or, Bool.false_and, Bool.and_false, Bool.or_true, Bool.true_or]
theorem right_nn {n : Int} (h : right n = true) : 0 ≤ n ∧ n < 16 := by simpa [right] using h
theorem right_of {k : Nat} (h : k < 16) : right (k : Int) = true := by simp [right]; omega

theorem has_ev (k : Nat) (s n : Int) : evF Tryz.prog env xt (k+2) 79 [.d (.s (.int .i64 (s))), .d (.s (.int .i64 (n)))] = some (.d (.s (.bool (has s n)))) := by
  rw [evF_eq Tryz.func79 (show Tryz.f79.body = some _ from rfl) rfl rfl rfl (by show 2 ≤ 14; decide)]
  by_cases h : right n = true
  · have h2 := (right_nn h).1
    simp (decide := true) only [h, h2, right_ev, has, Tryz.f79, rid, ↓sBp, sBq, List.all_cons, List.all_nil, List.map_cons, List.map_nil, D.shape, Sh.sub, Sh.size, List.getElem?_cons_zero, List.getElem?_cons_succ, Option.bind_some, Option.bind_none, Option.getD_some, Option.getD_none, V.keysIn, V.kill, V.has, decide_eq_true_eq, beq_iff_eq, bne_iff_ne, ne_eq, Bool.not_eq_true', Bool.and_true, Bool.and_self, Bool.true_and, if_true, if_false, reduceIte, Bool.false_eq_true, decide_true, decide_false, beq_self_eq_true, Bool.not_true, Bool.not_false, true_and, and_true, and_self, List.append_assoc, List.nil_append, List.cons_append, Int.toNat_natCast, ck, Int.cast_ofNat_Int, Int.reduceToNat, bne_self_eq_false, Bool.or_false, Bool.false_or, Bool.false_and, Bool.and_false, Bool.or_true, Bool.true_or]
    rfl
  · simp (decide := true) only [h, right_ev, has, Tryz.f79, rid, ↓sBp, sBq, List.all_cons, List.all_nil, List.map_cons, List.map_nil, D.shape, Sh.sub, Sh.size, List.getElem?_cons_zero, List.getElem?_cons_succ, Option.bind_some, Option.bind_none, Option.getD_some, Option.getD_none, V.keysIn, V.kill, V.has, decide_eq_true_eq, beq_iff_eq, bne_iff_ne, ne_eq, Bool.not_eq_true', Bool.and_true, Bool.and_self, Bool.true_and, if_true, if_false, reduceIte, Bool.false_eq_true, decide_true, decide_false, beq_self_eq_true, Bool.not_true, Bool.not_false, true_and, and_true, and_self, List.append_assoc, List.nil_append, List.cons_append, Int.toNat_natCast, ck, Int.cast_ofNat_Int, Int.reduceToNat, bne_self_eq_false, Bool.or_false, Bool.false_or, Bool.false_and, Bool.and_false, Bool.or_true, Bool.true_or]
theorem rhas_ev (k : Nat) (s n : Int) : evF Tryz.prog env xt (k+2) 36 [.d (.s (.int .i64 (s))), .d (.s (.int .i64 (n)))] = some (.d (.s (.bool (has s n)))) := by
  rw [evF_eq Tryz.func36 (show Tryz.f36.body = some _ from rfl) rfl rfl rfl (by show 2 ≤ 15; decide)]
  by_cases h : right n = true
  · have h2 := (right_nn h).1
    have h3 : IntKind.u64.wrap n = n := IntWalk.u64_in _ (by have := right_nn h; omega)
    simp (decide := true) only [h, h2, h3, rright_ev, has, Tryz.f36, rid, ↓sBp, sBq, List.all_cons, List.all_nil, List.map_cons, List.map_nil, D.shape, Sh.sub, Sh.size, List.getElem?_cons_zero, List.getElem?_cons_succ, Option.bind_some, Option.bind_none, Option.getD_some, Option.getD_none, V.keysIn, V.kill, V.has, decide_eq_true_eq, beq_iff_eq, bne_iff_ne, ne_eq, Bool.not_eq_true', Bool.and_true, Bool.and_self, Bool.true_and, if_true, if_false, reduceIte, Bool.false_eq_true, decide_true, decide_false, beq_self_eq_true, Bool.not_true, Bool.not_false, true_and, and_true, and_self, List.append_assoc, List.nil_append, List.cons_append, Int.toNat_natCast, ck, Int.cast_ofNat_Int, Int.reduceToNat, bne_self_eq_false, Bool.or_false, Bool.false_or, Bool.false_and, Bool.and_false, Bool.or_true, Bool.true_or]
    rfl
  · simp (decide := true) only [h, rright_ev, has, Tryz.f36, rid, ↓sBp, sBq, List.all_cons, List.all_nil, List.map_cons, List.map_nil, D.shape, Sh.sub, Sh.size, List.getElem?_cons_zero, List.getElem?_cons_succ, Option.bind_some, Option.bind_none, Option.getD_some, Option.getD_none, V.keysIn, V.kill, V.has, decide_eq_true_eq, beq_iff_eq, bne_iff_ne, ne_eq, Bool.not_eq_true', Bool.and_true, Bool.and_self, Bool.true_and, if_true, if_false, reduceIte, Bool.false_eq_true, decide_true, decide_false, beq_self_eq_true, Bool.not_true, Bool.not_false, true_and, and_true, and_self, List.append_assoc, List.nil_append, List.cons_append, Int.toNat_natCast, ck, Int.cast_ofNat_Int, Int.reduceToNat, bne_self_eq_false, Bool.or_false, Bool.false_or, Bool.false_and, Bool.and_false, Bool.or_true, Bool.true_or]

theorem with_ev (k : Nat) (s n : Int) : evF Tryz.prog env xt (k+2) 100 [.d (.s (.int .i64 (s))), .d (.s (.int .i64 (n)))] = some (.d (.s (.int .i64 (withN s n)))) := by
  rw [evF_eq Tryz.func100 (show Tryz.f100.body = some _ from rfl) rfl rfl rfl (by show 2 ≤ 13; decide)]
  by_cases h : right n = true
  · have h2 := (right_nn h).1
    simp (decide := true) only [h, h2, right_ev, withN, Tryz.f100, rid, ↓sBp, sBq, List.all_cons, List.all_nil, List.map_cons, List.map_nil, D.shape, Sh.sub, Sh.size, List.getElem?_cons_zero, List.getElem?_cons_succ, Option.bind_some, Option.bind_none, Option.getD_some, Option.getD_none, V.keysIn, V.kill, V.has, decide_eq_true_eq, beq_iff_eq, bne_iff_ne, ne_eq, Bool.not_eq_true', Bool.and_true, Bool.and_self, Bool.true_and, if_true, if_false, reduceIte, Bool.false_eq_true, decide_true, decide_false, beq_self_eq_true, Bool.not_true, Bool.not_false, true_and, and_true, and_self, List.append_assoc, List.nil_append, List.cons_append, Int.toNat_natCast, ck, Int.cast_ofNat_Int, Int.reduceToNat, bne_self_eq_false, Bool.or_false, Bool.false_or, Bool.false_and, Bool.and_false, Bool.or_true, Bool.true_or]
    rfl
  · simp (decide := true) only [h, right_ev, withN, Tryz.f100, rid, ↓sBp, sBq, List.all_cons, List.all_nil, List.map_cons, List.map_nil, D.shape, Sh.sub, Sh.size, List.getElem?_cons_zero, List.getElem?_cons_succ, Option.bind_some, Option.bind_none, Option.getD_some, Option.getD_none, V.keysIn, V.kill, V.has, decide_eq_true_eq, beq_iff_eq, bne_iff_ne, ne_eq, Bool.not_eq_true', Bool.and_true, Bool.and_self, Bool.true_and, if_true, if_false, reduceIte, Bool.false_eq_true, decide_true, decide_false, beq_self_eq_true, Bool.not_true, Bool.not_false, true_and, and_true, and_self, List.append_assoc, List.nil_append, List.cons_append, Int.toNat_natCast, ck, Int.cast_ofNat_Int, Int.reduceToNat, bne_self_eq_false, Bool.or_false, Bool.false_or, Bool.false_and, Bool.and_false, Bool.or_true, Bool.true_or]
theorem rwith_ev (k : Nat) (s n : Int) : evF Tryz.prog env xt (k+2) 85 [.d (.s (.int .i64 (s))), .d (.s (.int .i64 (n)))] = some (.d (.s (.int .i64 (withN s n)))) := by
  rw [evF_eq Tryz.func85 (show Tryz.f85.body = some _ from rfl) rfl rfl rfl (by show 2 ≤ 13; decide)]
  by_cases h : right n = true
  · have h2 := (right_nn h).1
    have h3 : IntKind.u64.wrap n = n := IntWalk.u64_in _ (by have := right_nn h; omega)
    simp (decide := true) only [h, h2, h3, rright_ev, withN, Tryz.f85, rid, ↓sBp, sBq, List.all_cons, List.all_nil, List.map_cons, List.map_nil, D.shape, Sh.sub, Sh.size, List.getElem?_cons_zero, List.getElem?_cons_succ, Option.bind_some, Option.bind_none, Option.getD_some, Option.getD_none, V.keysIn, V.kill, V.has, decide_eq_true_eq, beq_iff_eq, bne_iff_ne, ne_eq, Bool.not_eq_true', Bool.and_true, Bool.and_self, Bool.true_and, if_true, if_false, reduceIte, Bool.false_eq_true, decide_true, decide_false, beq_self_eq_true, Bool.not_true, Bool.not_false, true_and, and_true, and_self, List.append_assoc, List.nil_append, List.cons_append, Int.toNat_natCast, ck, Int.cast_ofNat_Int, Int.reduceToNat, bne_self_eq_false, Bool.or_false, Bool.false_or, Bool.false_and, Bool.and_false, Bool.or_true, Bool.true_or]
    rfl
  · simp (decide := true) only [h, rright_ev, withN, Tryz.f85, rid, ↓sBp, sBq, List.all_cons, List.all_nil, List.map_cons, List.map_nil, D.shape, Sh.sub, Sh.size, List.getElem?_cons_zero, List.getElem?_cons_succ, Option.bind_some, Option.bind_none, Option.getD_some, Option.getD_none, V.keysIn, V.kill, V.has, decide_eq_true_eq, beq_iff_eq, bne_iff_ne, ne_eq, Bool.not_eq_true', Bool.and_true, Bool.and_self, Bool.true_and, if_true, if_false, reduceIte, Bool.false_eq_true, decide_true, decide_false, beq_self_eq_true, Bool.not_true, Bool.not_false, true_and, and_true, and_self, List.append_assoc, List.nil_append, List.cons_append, Int.toNat_natCast, ck, Int.cast_ofNat_Int, Int.reduceToNat, bne_self_eq_false, Bool.or_false, Bool.false_or, Bool.false_and, Bool.and_false, Bool.or_true, Bool.true_or]

theorem without_ev (k : Nat) (s n : Int) : evF Tryz.prog env xt (k+2) 121 [.d (.s (.int .i64 (s))), .d (.s (.int .i64 (n)))] = some (.d (.s (.int .i64 (withoutN s n)))) := by
  rw [evF_eq Tryz.func121 (show Tryz.f121.body = some _ from rfl) rfl rfl rfl (by show 2 ≤ 13; decide)]
  by_cases h : right n = true
  · have h2 := (right_nn h).1
    simp (decide := true) only [h, h2, right_ev, withoutN, Tryz.f121, rid, ↓sBp, sBq, List.all_cons, List.all_nil, List.map_cons, List.map_nil, D.shape, Sh.sub, Sh.size, List.getElem?_cons_zero, List.getElem?_cons_succ, Option.bind_some, Option.bind_none, Option.getD_some, Option.getD_none, V.keysIn, V.kill, V.has, decide_eq_true_eq, beq_iff_eq, bne_iff_ne, ne_eq, Bool.not_eq_true', Bool.and_true, Bool.and_self, Bool.true_and, if_true, if_false, reduceIte, Bool.false_eq_true, decide_true, decide_false, beq_self_eq_true, Bool.not_true, Bool.not_false, true_and, and_true, and_self, List.append_assoc, List.nil_append, List.cons_append, Int.toNat_natCast, ck, Int.cast_ofNat_Int, Int.reduceToNat, bne_self_eq_false, Bool.or_false, Bool.false_or, Bool.false_and, Bool.and_false, Bool.or_true, Bool.true_or]
    rfl
  · simp (decide := true) only [h, right_ev, withoutN, Tryz.f121, rid, ↓sBp, sBq, List.all_cons, List.all_nil, List.map_cons, List.map_nil, D.shape, Sh.sub, Sh.size, List.getElem?_cons_zero, List.getElem?_cons_succ, Option.bind_some, Option.bind_none, Option.getD_some, Option.getD_none, V.keysIn, V.kill, V.has, decide_eq_true_eq, beq_iff_eq, bne_iff_ne, ne_eq, Bool.not_eq_true', Bool.and_true, Bool.and_self, Bool.true_and, if_true, if_false, reduceIte, Bool.false_eq_true, decide_true, decide_false, beq_self_eq_true, Bool.not_true, Bool.not_false, true_and, and_true, and_self, List.append_assoc, List.nil_append, List.cons_append, Int.toNat_natCast, ck, Int.cast_ofNat_Int, Int.reduceToNat, bne_self_eq_false, Bool.or_false, Bool.false_or, Bool.false_and, Bool.and_false, Bool.or_true, Bool.true_or]
theorem rwithout_ev (k : Nat) (s n : Int) : evF Tryz.prog env xt (k+2) 95 [.d (.s (.int .i64 (s))), .d (.s (.int .i64 (n)))] = some (.d (.s (.int .i64 (withoutN s n)))) := by
  rw [evF_eq Tryz.func95 (show Tryz.f95.body = some _ from rfl) rfl rfl rfl (by show 2 ≤ 13; decide)]
  by_cases h : right n = true
  · have h2 := (right_nn h).1
    have h3 : IntKind.u64.wrap n = n := IntWalk.u64_in _ (by have := right_nn h; omega)
    simp (decide := true) only [h, h2, h3, rright_ev, withoutN, Tryz.f95, rid, ↓sBp, sBq, List.all_cons, List.all_nil, List.map_cons, List.map_nil, D.shape, Sh.sub, Sh.size, List.getElem?_cons_zero, List.getElem?_cons_succ, Option.bind_some, Option.bind_none, Option.getD_some, Option.getD_none, V.keysIn, V.kill, V.has, decide_eq_true_eq, beq_iff_eq, bne_iff_ne, ne_eq, Bool.not_eq_true', Bool.and_true, Bool.and_self, Bool.true_and, if_true, if_false, reduceIte, Bool.false_eq_true, decide_true, decide_false, beq_self_eq_true, Bool.not_true, Bool.not_false, true_and, and_true, and_self, List.append_assoc, List.nil_append, List.cons_append, Int.toNat_natCast, ck, Int.cast_ofNat_Int, Int.reduceToNat, bne_self_eq_false, Bool.or_false, Bool.false_or, Bool.false_and, Bool.and_false, Bool.or_true, Bool.true_or]
    rfl
  · simp (decide := true) only [h, rright_ev, withoutN, Tryz.f95, rid, ↓sBp, sBq, List.all_cons, List.all_nil, List.map_cons, List.map_nil, D.shape, Sh.sub, Sh.size, List.getElem?_cons_zero, List.getElem?_cons_succ, Option.bind_some, Option.bind_none, Option.getD_some, Option.getD_none, V.keysIn, V.kill, V.has, decide_eq_true_eq, beq_iff_eq, bne_iff_ne, ne_eq, Bool.not_eq_true', Bool.and_true, Bool.and_self, Bool.true_and, if_true, if_false, reduceIte, Bool.false_eq_true, decide_true, decide_false, beq_self_eq_true, Bool.not_true, Bool.not_false, true_and, and_true, and_self, List.append_assoc, List.nil_append, List.cons_append, Int.toNat_natCast, ck, Int.cast_ofNat_Int, Int.reduceToNat, bne_self_eq_false, Bool.or_false, Bool.false_or, Bool.false_and, Bool.and_false, Bool.or_true, Bool.true_or]

def ints (l : List Int) : List D := l.map dI
theorem ints_nil : ints [] = [] := nr rfl
theorem ints_length (l : List Int) : (ints l).length = l.length := List.length_map ..
theorem ints_snoc (l : List Int) (n : Int) : ints l ++ [dI n] = ints (l ++ [n]) := by simp [ints]
theorem ints_get {l : List Int} {k : Nat} {n : Int} (h : l[k]? = some n) : (ints l)[k]? = some (dI n) := by simp [ints, h]
def listTo (set : Int) (k : Nat) : List Int := ((List.range k).filter fun (n : Nat) => has set (n : Int)).map fun (n : Nat) => (n : Int)
theorem listTo_succ (set : Int) (k : Nat) : listTo set (k + 1) = if has set k = true then listTo set k ++ [(k : Int)] else listTo set k := by
  unfold listTo
  rw [List.range_succ, List.filter_append, List.map_append]
  by_cases h : has set k = true <;> simp [h]
theorem listTo_len (set : Int) (k : Nat) : (listTo set k).length ≤ k := by
  unfold listTo
  rw [List.length_map]
  exact Nat.le_trans (List.length_filter_le _ _) (by simp)
theorem listTo_get (set : Int) {k : Nat} (hk : k < (listTo set 16).length) : ∃ m : Nat, m < 16 ∧ has set m = true ∧ (listTo set 16)[k]? = some (m : Int) := by
  have h := List.getElem_mem hk
  unfold listTo at h
  rw [List.mem_map] at h
  obtain ⟨m, hm, e⟩ := h
  rw [List.mem_filter] at hm
  exact ⟨m, by simpa using hm.1, by simpa using hm.2, by rw [List.getElem?_eq_getElem hk]; exact congrArg some e.symm⟩

theorem rep1 (z x : D) : (List.replicate 1 z).set 0 x = [x] := nr rfl
theorem app_ok {sh : Sh} (l : List D) (b : Nat) (hb : b ≤ 64) (h : l.length ≤ 1000000) : ((l.length + 1) * b ≤ 140737488355328 ∧ l.length + 1 ≤ maxLen) = True := by
  unfold maxLen
  have : (l.length + 1) * b ≤ 1000001 * 64 := Nat.mul_le_mul (by omega) hb
  simp only [eq_iff_iff, iff_true]
  omega
theorem list_ev (d : Nat) (set : Int) : evF Tryz.prog env xt (d+3) 63 [.d (.s (.int .i64 (set)))] = some (.sl .ro cI (ints (listTo set 16))) := by
  rw [evF_eq Tryz.func63 (show Tryz.f63.body = some _ from rfl) rfl rfl rfl (by show 1 ≤ 17; decide)]
  simp (decide := true) only [Tryz.f63, rid, kl63_3, ↓sBp, sBq, List.all_cons, List.all_nil, List.map_cons, List.map_nil, D.shape, Sh.sub, Sh.size, List.getElem?_cons_zero, List.getElem?_cons_succ, Option.bind_some, Option.bind_none, Option.getD_some, Option.getD_none, V.keysIn, V.kill, V.has, decide_eq_true_eq, beq_iff_eq, bne_iff_ne, ne_eq, Bool.not_eq_true', Bool.and_true, Bool.and_self, Bool.true_and, if_true, if_false, reduceIte, Bool.false_eq_true, decide_true, decide_false, beq_self_eq_true, Bool.not_true, Bool.not_false, true_and, and_true, and_self, List.append_assoc, List.nil_append, List.cons_append, Int.toNat_natCast, ck, Int.cast_ofNat_Int, Int.reduceToNat, bne_self_eq_false, Bool.or_false, Bool.false_or, Bool.false_and, Bool.and_false, Bool.or_true, Bool.true_or]
  rw [iter_run (S := fun k => ⟨tab .junk [(0, .d (.s (.int .i64 (set)))), (3, .sl (.tg 3) cI (ints (listTo set k))), (5, .d (.s (.int .i64 (k))))], tab none [(3, some .row), (14, none)]⟩) (n := 16) (h0 := ?h0) (hn := lt_loopFuel (by decide)) (step := ?step)]
  case h0 => rfl
  case step =>
    intro k hk
    have hk1 : (k : Int) < 16 := by omega
    have hk0 : (0 : Int) ≤ k := by omega
    have hkw := wrap_succ k (by omega)
    have hl := listTo_len set k
    have hc := app_ok (sh := cI) (ints (listTo set k)) 8 (by omega) (by rw [ints_length]; omega)
    by_cases h : has set k = true
    · simp (decide := true) only [hk1, hk0, hkw, has_ev, h, listTo_succ, rep1, List.length_singleton, hc, ints_snoc, Tryz.f63, rid, kl63_3, ↓sBp, sBq, List.all_cons, List.all_nil, List.map_cons, List.map_nil, D.shape, Sh.sub, Sh.size, List.getElem?_cons_zero, List.getElem?_cons_succ, Option.bind_some, Option.bind_none, Option.getD_some, Option.getD_none, V.keysIn, V.kill, V.has, decide_eq_true_eq, beq_iff_eq, bne_iff_ne, ne_eq, Bool.not_eq_true', Bool.and_true, Bool.and_self, Bool.true_and, if_true, if_false, reduceIte, Bool.false_eq_true, decide_true, decide_false, beq_self_eq_true, Bool.not_true, Bool.not_false, true_and, and_true, and_self, List.append_assoc, List.nil_append, List.cons_append, Int.toNat_natCast, ck, Int.cast_ofNat_Int, Int.reduceToNat, bne_self_eq_false, Bool.or_false, Bool.false_or, Bool.false_and, Bool.and_false, Bool.or_true, Bool.true_or]
    · simp (decide := true) only [hk1, hk0, hkw, has_ev, h, listTo_succ, Tryz.f63, rid, kl63_3, ↓sBp, sBq, List.all_cons, List.all_nil, List.map_cons, List.map_nil, D.shape, Sh.sub, Sh.size, List.getElem?_cons_zero, List.getElem?_cons_succ, Option.bind_some, Option.bind_none, Option.getD_some, Option.getD_none, V.keysIn, V.kill, V.has, decide_eq_true_eq, beq_iff_eq, bne_iff_ne, ne_eq, Bool.not_eq_true', Bool.and_true, Bool.and_self, Bool.true_and, if_true, if_false, reduceIte, Bool.false_eq_true, decide_true, decide_false, beq_self_eq_true, Bool.not_true, Bool.not_false, true_and, and_true, and_self, List.append_assoc, List.nil_append, List.cons_append, Int.toNat_natCast, ck, Int.cast_ofNat_Int, Int.reduceToNat, bne_self_eq_false, Bool.or_false, Bool.false_or, Bool.false_and, Bool.and_false, Bool.or_true, Bool.true_or]
  simp (decide := true) only [Tryz.f63, rid, kl63_3, ↓sBp, sBq, List.all_cons, List.all_nil, List.map_cons, List.map_nil, D.shape, Sh.sub, Sh.size, List.getElem?_cons_zero, List.getElem?_cons_succ, Option.bind_some, Option.bind_none, Option.getD_some, Option.getD_none, V.keysIn, V.kill, V.has, decide_eq_true_eq, beq_iff_eq, bne_iff_ne, ne_eq, Bool.not_eq_true', Bool.and_true, Bool.and_self, Bool.true_and, if_true, if_false, reduceIte, Bool.false_eq_true, decide_true, decide_false, beq_self_eq_true, Bool.not_true, Bool.not_false, true_and, and_true, and_self, List.append_assoc, List.nil_append, List.cons_append, Int.toNat_natCast, ck, Int.cast_ofNat_Int, Int.reduceToNat, bne_self_eq_false, Bool.or_false, Bool.false_or, Bool.false_and, Bool.and_false, Bool.or_true, Bool.true_or]
theorem rlist_ev (d : Nat) (set : Int) : evF Tryz.prog env xt (d+3) 47 [.d (.s (.int .i64 (set)))] = some (.sl .ro cI (ints (listTo set 16))) := by
  rw [evF_eq Tryz.func47 (show Tryz.f47.body = some _ from rfl) rfl rfl rfl (by show 1 ≤ 17; decide)]
  simp (decide := true) only [Tryz.f47, rid, kl47_3, ↓sBp, sBq, List.all_cons, List.all_nil, List.map_cons, List.map_nil, D.shape, Sh.sub, Sh.size, List.getElem?_cons_zero, List.getElem?_cons_succ, Option.bind_some, Option.bind_none, Option.getD_some, Option.getD_none, V.keysIn, V.kill, V.has, decide_eq_true_eq, beq_iff_eq, bne_iff_ne, ne_eq, Bool.not_eq_true', Bool.and_true, Bool.and_self, Bool.true_and, if_true, if_false, reduceIte, Bool.false_eq_true, decide_true, decide_false, beq_self_eq_true, Bool.not_true, Bool.not_false, true_and, and_true, and_self, List.append_assoc, List.nil_append, List.cons_append, Int.toNat_natCast, ck, Int.cast_ofNat_Int, Int.reduceToNat, bne_self_eq_false, Bool.or_false, Bool.false_or, Bool.false_and, Bool.and_false, Bool.or_true, Bool.true_or]
  rw [iter_run (S := fun k => ⟨tab .junk [(0, .d (.s (.int .i64 (set)))), (3, .sl (.tg 3) cI (ints (listTo set k))), (5, .d (.s (.int .i64 (k))))], tab none [(3, some .row), (14, none)]⟩) (n := 16) (h0 := ?h0) (hn := lt_loopFuel (by decide)) (step := ?step)]
  case h0 => rfl
  case step =>
    intro k hk
    have hk1 : (k : Int) < 16 := by omega
    have hk0 : (0 : Int) ≤ k := by omega
    have hkw := wrap_succ k (by omega)
    have hl := listTo_len set k
    have hc := app_ok (sh := cI) (ints (listTo set k)) 8 (by omega) (by rw [ints_length]; omega)
    by_cases h : has set k = true
    · simp (decide := true) only [hk1, hk0, hkw, rhas_ev, h, listTo_succ, rep1, List.length_singleton, hc, ints_snoc, Tryz.f47, rid, kl47_3, ↓sBp, sBq, List.all_cons, List.all_nil, List.map_cons, List.map_nil, D.shape, Sh.sub, Sh.size, List.getElem?_cons_zero, List.getElem?_cons_succ, Option.bind_some, Option.bind_none, Option.getD_some, Option.getD_none, V.keysIn, V.kill, V.has, decide_eq_true_eq, beq_iff_eq, bne_iff_ne, ne_eq, Bool.not_eq_true', Bool.and_true, Bool.and_self, Bool.true_and, if_true, if_false, reduceIte, Bool.false_eq_true, decide_true, decide_false, beq_self_eq_true, Bool.not_true, Bool.not_false, true_and, and_true, and_self, List.append_assoc, List.nil_append, List.cons_append, Int.toNat_natCast, ck, Int.cast_ofNat_Int, Int.reduceToNat, bne_self_eq_false, Bool.or_false, Bool.false_or, Bool.false_and, Bool.and_false, Bool.or_true, Bool.true_or]
    · simp (decide := true) only [hk1, hk0, hkw, rhas_ev, h, listTo_succ, Tryz.f47, rid, kl47_3, ↓sBp, sBq, List.all_cons, List.all_nil, List.map_cons, List.map_nil, D.shape, Sh.sub, Sh.size, List.getElem?_cons_zero, List.getElem?_cons_succ, Option.bind_some, Option.bind_none, Option.getD_some, Option.getD_none, V.keysIn, V.kill, V.has, decide_eq_true_eq, beq_iff_eq, bne_iff_ne, ne_eq, Bool.not_eq_true', Bool.and_true, Bool.and_self, Bool.true_and, if_true, if_false, reduceIte, Bool.false_eq_true, decide_true, decide_false, beq_self_eq_true, Bool.not_true, Bool.not_false, true_and, and_true, and_self, List.append_assoc, List.nil_append, List.cons_append, Int.toNat_natCast, ck, Int.cast_ofNat_Int, Int.reduceToNat, bne_self_eq_false, Bool.or_false, Bool.false_or, Bool.false_and, Bool.and_false, Bool.or_true, Bool.true_or]
  simp (decide := true) only [Tryz.f47, rid, kl47_3, ↓sBp, sBq, List.all_cons, List.all_nil, List.map_cons, List.map_nil, D.shape, Sh.sub, Sh.size, List.getElem?_cons_zero, List.getElem?_cons_succ, Option.bind_some, Option.bind_none, Option.getD_some, Option.getD_none, V.keysIn, V.kill, V.has, decide_eq_true_eq, beq_iff_eq, bne_iff_ne, ne_eq, Bool.not_eq_true', Bool.and_true, Bool.and_self, Bool.true_and, if_true, if_false, reduceIte, Bool.false_eq_true, decide_true, decide_false, beq_self_eq_true, Bool.not_true, Bool.not_false, true_and, and_true, and_self, List.append_assoc, List.nil_append, List.cons_append, Int.toNat_natCast, ck, Int.cast_ofNat_Int, Int.reduceToNat, bne_self_eq_false, Bool.or_false, Bool.false_or, Bool.false_and, Bool.and_false, Bool.or_true, Bool.true_or]
/-- The first turn at which something holds. -/
theorem first_of {p : Nat → Prop} {n : Nat} (h : ∃ k, k < n ∧ p k) : ∃ k, k < n ∧ p k ∧ ∀ i, i < k → ¬ p i := by
  induction n with
  | zero => obtain ⟨k, hk, _⟩ := h; omega
  | succ n ih =>
    by_cases h' : ∃ k, k < n ∧ p k
    · obtain ⟨k, hk, h1, h2⟩ := ih h'
      exact ⟨k, by omega, h1, h2⟩
    · obtain ⟨k, hk, hp⟩ := h
      have : k = n := by
        by_cases e : k < n
        · exact absurd ⟨k, e, hp⟩ h'
        · omega
      subst this
      exact ⟨k, by omega, hp, fun i hi hpi => h' ⟨i, hi, hpi⟩⟩
theorem setN_self {α : Type} (l : Nat → α) (i : Nat) : setN l i (l i) = l := funext fun j => by unfold setN; split <;> simp_all
/-- An array that is filled from its start. -/
def fillTo {α : Type} (g l : Nat → α) (k : Nat) : Nat → α := fun i => if i < k then g i else l i
theorem fillTo_zero {α : Type} (g l : Nat → α) : fillTo g l 0 = l := funext fun i => by simp [fillTo]
theorem fillTo_set {α : Type} (g l : Nat → α) (k : Nat) : setN (fillTo g l k) k (g k) = fillTo g l (k + 1) := funext fun i => by
  unfold setN fillTo
  by_cases h : i = k
  · subst h; simp
  · have : (i < k + 1) = (i < k) := by simp; omega
    simp [h, this]
theorem fillTo_at {α : Type} (g l : Nat → α) (k i : Nat) (h : k ≤ i) : fillTo g l k i = l i := by simp [fillTo]; omega
/-- The set of those below n for which c holds. -/
def setOf (c : Nat → Bool) (n : Nat) : Int := upto (fun k s => if c k = true then withN s k else s) 0 n
theorem setOf_succ (c : Nat → Bool) (k : Nat) : setOf c (k + 1) = if c k = true then withN (setOf c k) k else setOf c k := nr rfl
end Go.Proofs.YtjceimcepogkaaaGreatDoor.Ev
