/- Plays that are too long; the closed runs of the laws of lpa and fib. -/
import Derived.Test.YtfbaikkadndckaaLv
namespace Go.Proofs.Ytfbaikkadndckaa.Ev
open Go
attribute [local congr] ob_congr sq_congr cd_congr ite_congr1 iter_congr it1_congr jumps_congr
set_option maxRecDepth 100000
set_option linter.unusedSimpArgs false
set_option linter.unusedVariables false
theorem maxLen_le {n : Nat} (h : n ≤ maxLen) : n ≤ 9223372036854775807 := by unfold maxLen at h; omega
theorem lt_fuel2 {n : Nat} (h : n ≤ 9223372036854775807) : n < loopFuel := by unfold loopFuel; omega
def op0 : OpS := ⟨0, 0, 0, [], none, 0⟩
def longB (ops : List OpS) : Bool := (List.range ops.length).any (fun k => decide (60 < (ops.getD k op0).its.length)) || decide (40 < ops.length)
theorem longB_yes {ops : List OpS} {k : Nat} (hk : k < ops.length) (h : 60 < (ops.getD k op0).its.length) : longB ops = true := by
  unfold longB
  rw [Bool.or_eq_true]; left
  rw [List.any_eq_true]
  exact ⟨k, by simpa using hk, by simpa using h⟩
theorem longB_no {ops : List OpS} (h : ∀ k, k < ops.length → ¬ 60 < (ops.getD k op0).its.length) : longB ops = decide (40 < ops.length) := by
  unfold longB
  have : ((List.range ops.length).any fun k => decide (60 < (ops.getD k op0).its.length)) = false := by
    rw [List.any_eq_false]
    intro k hk
    simpa using h k (by simpa using hk)
  rw [this, Bool.false_or]
theorem longB_facts {ops : List OpS} (h : longB ops = false) : ops.length ≤ 40 ∧ ∀ k, k < ops.length → (ops.getD k op0).its.length ≤ 60 := by
  unfold longB at h
  rw [Bool.or_eq_false_iff] at h
  refine ⟨by simpa using h.2, fun k hk => ?_⟩
  have := List.any_eq_false.1 h.1 k (by simpa using hk)
  simpa using this
section
variable {orc : Value → Option (List Itm)}
theorem long31_ev (K : Nat) (ops : List OpS) (hl : ops.length ≤ maxLen) : evF Try.prog env (xo orc) (K+1) 75 [.sl .ro shO (ops.map opD)] = some (.d (.s (.bool (longB ops)))) := by
  rw [evF_eq Try.func75 (show Try.f75.body = some _ from rfl) rfl rfl (by show 1 ≤ 19; decide)]
  have hle : (ops.map opD).length = ops.length := List.length_map ..
  have hl2 := maxLen_le hl
  have hget : ∀ k, k < ops.length → (ops.map opD)[k]? = some (opD (ops.getD k op0)) := fun k hk => by simp [List.getD, List.getElem?_eq_getElem hk]
  by_cases h : ∃ k, k < ops.length ∧ 60 < (ops.getD k op0).its.length
  · obtain ⟨N, hN, hN2, hN3⟩ := first_of h
    have hb : longB ops = true := longB_yes hN hN2
    rw [hb]
    simp (decide := true) only [hle, Try.f75, rid, kl75_2, ↓sBp, sBq, List.all_cons, List.all_nil, List.map_cons, List.map_nil, D.shape, Sh.sub, Sh.size, List.getElem?_cons_zero, List.getElem?_cons_succ, Option.bind_some, Option.bind_none, Option.getD_some, Option.getD_none, V.keysIn, V.kill, V.has, decide_eq_true_eq, beq_iff_eq, bne_iff_ne, ne_eq, Bool.not_eq_true', Bool.and_true, Bool.and_self, Bool.true_and, if_true, if_false, reduceIte, Bool.false_eq_true, decide_true, decide_false, beq_self_eq_true, Bool.not_true, Bool.not_false, true_and, and_true, and_self, List.append_assoc, List.nil_append, List.cons_append, Int.toNat_natCast, ck, Int.cast_ofNat_Int, Int.reduceToNat, bne_self_eq_false, Bool.or_false, Bool.false_or, Bool.false_and, Bool.and_false, Bool.or_true, Bool.true_or]
    rw [iter_run (S := fun k => ⟨tab .junk [(0, .sl .ro shO (ops.map opD)), (5, .sl .ro shO (ops.map opD)), (6, .d (.s (.int .i64 (ops.length)))), (7, .d (.s (.int .i64 (k))))], tab none []⟩) (n := N) (h0 := ?h0) (hn := ?hn) (step := ?step)]
    case h0 => rfl
    case hn => exact lt_fuel2 (by omega)
    case step =>
      intro k hk
      have hk1 : (k : Int) < (ops.length : Int) := by omega
      have hk0 : (0 : Int) ≤ k := by omega
      have hkw := wrap_succ k (by omega)
      have hg := hget k (by omega)
      have hn := hN3 k hk
      generalize ops.getD k op0 = o at hg hn
      have hn' : ¬ (60 : Int) < (o.its.length : Int) := by omega
      simp (decide := true) only [hk1, hk0, hkw, hg, hn', Try.f75, rid, kl75_2, ↓sBp, sBq, List.all_cons, List.all_nil, List.map_cons, List.map_nil, D.shape, Sh.sub, Sh.size, List.getElem?_cons_zero, List.getElem?_cons_succ, Option.bind_some, Option.bind_none, Option.getD_some, Option.getD_none, V.keysIn, V.kill, V.has, decide_eq_true_eq, beq_iff_eq, bne_iff_ne, ne_eq, Bool.not_eq_true', Bool.and_true, Bool.and_self, Bool.true_and, if_true, if_false, reduceIte, Bool.false_eq_true, decide_true, decide_false, beq_self_eq_true, Bool.not_true, Bool.not_false, true_and, and_true, and_self, List.append_assoc, List.nil_append, List.cons_append, Int.toNat_natCast, ck, Int.cast_ofNat_Int, Int.reduceToNat, bne_self_eq_false, Bool.or_false, Bool.false_or, Bool.false_and, Bool.and_false, Bool.or_true, Bool.true_or]
    have hk1 : (N : Int) < (ops.length : Int) := by omega
    have hk0 : (0 : Int) ≤ N := by omega
    have hg := hget N hN
    generalize ops.getD N op0 = o at hg hN2
    have hn' : (60 : Int) < (o.its.length : Int) := by omega
    simp (decide := true) only [hk1, hk0, hg, hn', Try.f75, rid, kl75_2, ↓sBp, sBq, List.all_cons, List.all_nil, List.map_cons, List.map_nil, D.shape, Sh.sub, Sh.size, List.getElem?_cons_zero, List.getElem?_cons_succ, Option.bind_some, Option.bind_none, Option.getD_some, Option.getD_none, V.keysIn, V.kill, V.has, decide_eq_true_eq, beq_iff_eq, bne_iff_ne, ne_eq, Bool.not_eq_true', Bool.and_true, Bool.and_self, Bool.true_and, if_true, if_false, reduceIte, Bool.false_eq_true, decide_true, decide_false, beq_self_eq_true, Bool.not_true, Bool.not_false, true_and, and_true, and_self, List.append_assoc, List.nil_append, List.cons_append, Int.toNat_natCast, ck, Int.cast_ofNat_Int, Int.reduceToNat, bne_self_eq_false, Bool.or_false, Bool.false_or, Bool.false_and, Bool.and_false, Bool.or_true, Bool.true_or]
  · have hno : ∀ k, k < ops.length → ¬ 60 < (ops.getD k op0).its.length := fun k hk hq => h ⟨k, hk, hq⟩
    have hb : longB ops = decide (40 < ops.length) := longB_no hno
    rw [hb]
    simp (decide := true) only [hle, Try.f75, rid, kl75_2, ↓sBp, sBq, List.all_cons, List.all_nil, List.map_cons, List.map_nil, D.shape, Sh.sub, Sh.size, List.getElem?_cons_zero, List.getElem?_cons_succ, Option.bind_some, Option.bind_none, Option.getD_some, Option.getD_none, V.keysIn, V.kill, V.has, decide_eq_true_eq, beq_iff_eq, bne_iff_ne, ne_eq, Bool.not_eq_true', Bool.and_true, Bool.and_self, Bool.true_and, if_true, if_false, reduceIte, Bool.false_eq_true, decide_true, decide_false, beq_self_eq_true, Bool.not_true, Bool.not_false, true_and, and_true, and_self, List.append_assoc, List.nil_append, List.cons_append, Int.toNat_natCast, ck, Int.cast_ofNat_Int, Int.reduceToNat, bne_self_eq_false, Bool.or_false, Bool.false_or, Bool.false_and, Bool.and_false, Bool.or_true, Bool.true_or]
    rw [iter_run (S := fun k => ⟨tab .junk [(0, .sl .ro shO (ops.map opD)), (5, .sl .ro shO (ops.map opD)), (6, .d (.s (.int .i64 (ops.length)))), (7, .d (.s (.int .i64 (k))))], tab none []⟩) (n := ops.length) (h0 := ?h0) (hn := ?hn) (step := ?step)]
    case h0 => rfl
    case hn => exact lt_fuel2 (by omega)
    case step =>
      intro k hk
      have hk1 : (k : Int) < (ops.length : Int) := by omega
      have hk0 : (0 : Int) ≤ k := by omega
      have hkw := wrap_succ k (by omega)
      have hg := hget k (by omega)
      have hn := hno k hk
      generalize ops.getD k op0 = o at hg hn
      have hn' : ¬ (60 : Int) < (o.its.length : Int) := by omega
      simp (decide := true) only [hk1, hk0, hkw, hg, hn', Try.f75, rid, kl75_2, ↓sBp, sBq, List.all_cons, List.all_nil, List.map_cons, List.map_nil, D.shape, Sh.sub, Sh.size, List.getElem?_cons_zero, List.getElem?_cons_succ, Option.bind_some, Option.bind_none, Option.getD_some, Option.getD_none, V.keysIn, V.kill, V.has, decide_eq_true_eq, beq_iff_eq, bne_iff_ne, ne_eq, Bool.not_eq_true', Bool.and_true, Bool.and_self, Bool.true_and, if_true, if_false, reduceIte, Bool.false_eq_true, decide_true, decide_false, beq_self_eq_true, Bool.not_true, Bool.not_false, true_and, and_true, and_self, List.append_assoc, List.nil_append, List.cons_append, Int.toNat_natCast, ck, Int.cast_ofNat_Int, Int.reduceToNat, bne_self_eq_false, Bool.or_false, Bool.false_or, Bool.false_and, Bool.and_false, Bool.or_true, Bool.true_or]
    by_cases h40 : 40 < ops.length
    · have h40' : (40 : Int) < (ops.length : Int) := by omega
      simp (decide := true) only [Int.lt_irrefl, hle, h40', h40, Try.f75, rid, kl75_2, ↓sBp, sBq, List.all_cons, List.all_nil, List.map_cons, List.map_nil, D.shape, Sh.sub, Sh.size, List.getElem?_cons_zero, List.getElem?_cons_succ, Option.bind_some, Option.bind_none, Option.getD_some, Option.getD_none, V.keysIn, V.kill, V.has, decide_eq_true_eq, beq_iff_eq, bne_iff_ne, ne_eq, Bool.not_eq_true', Bool.and_true, Bool.and_self, Bool.true_and, if_true, if_false, reduceIte, Bool.false_eq_true, decide_true, decide_false, beq_self_eq_true, Bool.not_true, Bool.not_false, true_and, and_true, and_self, List.append_assoc, List.nil_append, List.cons_append, Int.toNat_natCast, ck, Int.cast_ofNat_Int, Int.reduceToNat, bne_self_eq_false, Bool.or_false, Bool.false_or, Bool.false_and, Bool.and_false, Bool.or_true, Bool.true_or]
    · have h40' : ¬ (40 : Int) < (ops.length : Int) := by omega
      simp (decide := true) only [Int.lt_irrefl, hle, h40', h40, Try.f75, rid, kl75_2, ↓sBp, sBq, List.all_cons, List.all_nil, List.map_cons, List.map_nil, D.shape, Sh.sub, Sh.size, List.getElem?_cons_zero, List.getElem?_cons_succ, Option.bind_some, Option.bind_none, Option.getD_some, Option.getD_none, V.keysIn, V.kill, V.has, decide_eq_true_eq, beq_iff_eq, bne_iff_ne, ne_eq, Bool.not_eq_true', Bool.and_true, Bool.and_self, Bool.true_and, if_true, if_false, reduceIte, Bool.false_eq_true, decide_true, decide_false, beq_self_eq_true, Bool.not_true, Bool.not_false, true_and, and_true, and_self, List.append_assoc, List.nil_append, List.cons_append, Int.toNat_natCast, ck, Int.cast_ofNat_Int, Int.reduceToNat, bne_self_eq_false, Bool.or_false, Bool.false_or, Bool.false_and, Bool.and_false, Bool.or_true, Bool.true_or]
theorem long32_ev (K : Nat) (ops : List OpS) (hl : ops.length ≤ maxLen) : evF Try.prog env (xo orc) (K+1) 59 [.sl .ro shO (ops.map opD)] = some (.d (.s (.bool (longB ops)))) := by
  rw [evF_eq Try.func59 (show Try.f59.body = some _ from rfl) rfl rfl (by show 1 ≤ 19; decide)]
  have hle : (ops.map opD).length = ops.length := List.length_map ..
  have hl2 := maxLen_le hl
  have hget : ∀ k, k < ops.length → (ops.map opD)[k]? = some (opD (ops.getD k op0)) := fun k hk => by simp [List.getD, List.getElem?_eq_getElem hk]
  by_cases h : ∃ k, k < ops.length ∧ 60 < (ops.getD k op0).its.length
  · obtain ⟨N, hN, hN2, hN3⟩ := first_of h
    have hb : longB ops = true := longB_yes hN hN2
    rw [hb]
    simp (decide := true) only [hle, Try.f59, rid, kl59_2, ↓sBp, sBq, List.all_cons, List.all_nil, List.map_cons, List.map_nil, D.shape, Sh.sub, Sh.size, List.getElem?_cons_zero, List.getElem?_cons_succ, Option.bind_some, Option.bind_none, Option.getD_some, Option.getD_none, V.keysIn, V.kill, V.has, decide_eq_true_eq, beq_iff_eq, bne_iff_ne, ne_eq, Bool.not_eq_true', Bool.and_true, Bool.and_self, Bool.true_and, if_true, if_false, reduceIte, Bool.false_eq_true, decide_true, decide_false, beq_self_eq_true, Bool.not_true, Bool.not_false, true_and, and_true, and_self, List.append_assoc, List.nil_append, List.cons_append, Int.toNat_natCast, ck, Int.cast_ofNat_Int, Int.reduceToNat, bne_self_eq_false, Bool.or_false, Bool.false_or, Bool.false_and, Bool.and_false, Bool.or_true, Bool.true_or]
    rw [iter_run (S := fun k => ⟨tab .junk [(0, .sl .ro shO (ops.map opD)), (5, .sl .ro shO (ops.map opD)), (6, .d (.s (.int .i64 (ops.length)))), (7, .d (.s (.int .i64 (k))))], tab none []⟩) (n := N) (h0 := ?h0) (hn := ?hn) (step := ?step)]
    case h0 => rfl
    case hn => exact lt_fuel2 (by omega)
    case step =>
      intro k hk
      have hk1 : (k : Int) < (ops.length : Int) := by omega
      have hk0 : (0 : Int) ≤ k := by omega
      have hkw := wrap_succ k (by omega)
      have hg := hget k (by omega)
      have hn := hN3 k hk
      generalize ops.getD k op0 = o at hg hn
      have hn' : ¬ (60 : Int) < (o.its.length : Int) := by omega
      simp (decide := true) only [hk1, hk0, hkw, hg, hn', Try.f59, rid, kl59_2, ↓sBp, sBq, List.all_cons, List.all_nil, List.map_cons, List.map_nil, D.shape, Sh.sub, Sh.size, List.getElem?_cons_zero, List.getElem?_cons_succ, Option.bind_some, Option.bind_none, Option.getD_some, Option.getD_none, V.keysIn, V.kill, V.has, decide_eq_true_eq, beq_iff_eq, bne_iff_ne, ne_eq, Bool.not_eq_true', Bool.and_true, Bool.and_self, Bool.true_and, if_true, if_false, reduceIte, Bool.false_eq_true, decide_true, decide_false, beq_self_eq_true, Bool.not_true, Bool.not_false, true_and, and_true, and_self, List.append_assoc, List.nil_append, List.cons_append, Int.toNat_natCast, ck, Int.cast_ofNat_Int, Int.reduceToNat, bne_self_eq_false, Bool.or_false, Bool.false_or, Bool.false_and, Bool.and_false, Bool.or_true, Bool.true_or]
    have hk1 : (N : Int) < (ops.length : Int) := by omega
    have hk0 : (0 : Int) ≤ N := by omega
    have hg := hget N hN
    generalize ops.getD N op0 = o at hg hN2
    have hn' : (60 : Int) < (o.its.length : Int) := by omega
    simp (decide := true) only [hk1, hk0, hg, hn', Try.f59, rid, kl59_2, ↓sBp, sBq, List.all_cons, List.all_nil, List.map_cons, List.map_nil, D.shape, Sh.sub, Sh.size, List.getElem?_cons_zero, List.getElem?_cons_succ, Option.bind_some, Option.bind_none, Option.getD_some, Option.getD_none, V.keysIn, V.kill, V.has, decide_eq_true_eq, beq_iff_eq, bne_iff_ne, ne_eq, Bool.not_eq_true', Bool.and_true, Bool.and_self, Bool.true_and, if_true, if_false, reduceIte, Bool.false_eq_true, decide_true, decide_false, beq_self_eq_true, Bool.not_true, Bool.not_false, true_and, and_true, and_self, List.append_assoc, List.nil_append, List.cons_append, Int.toNat_natCast, ck, Int.cast_ofNat_Int, Int.reduceToNat, bne_self_eq_false, Bool.or_false, Bool.false_or, Bool.false_and, Bool.and_false, Bool.or_true, Bool.true_or]
  · have hno : ∀ k, k < ops.length → ¬ 60 < (ops.getD k op0).its.length := fun k hk hq => h ⟨k, hk, hq⟩
    have hb : longB ops = decide (40 < ops.length) := longB_no hno
    rw [hb]
    simp (decide := true) only [hle, Try.f59, rid, kl59_2, ↓sBp, sBq, List.all_cons, List.all_nil, List.map_cons, List.map_nil, D.shape, Sh.sub, Sh.size, List.getElem?_cons_zero, List.getElem?_cons_succ, Option.bind_some, Option.bind_none, Option.getD_some, Option.getD_none, V.keysIn, V.kill, V.has, decide_eq_true_eq, beq_iff_eq, bne_iff_ne, ne_eq, Bool.not_eq_true', Bool.and_true, Bool.and_self, Bool.true_and, if_true, if_false, reduceIte, Bool.false_eq_true, decide_true, decide_false, beq_self_eq_true, Bool.not_true, Bool.not_false, true_and, and_true, and_self, List.append_assoc, List.nil_append, List.cons_append, Int.toNat_natCast, ck, Int.cast_ofNat_Int, Int.reduceToNat, bne_self_eq_false, Bool.or_false, Bool.false_or, Bool.false_and, Bool.and_false, Bool.or_true, Bool.true_or]
    rw [iter_run (S := fun k => ⟨tab .junk [(0, .sl .ro shO (ops.map opD)), (5, .sl .ro shO (ops.map opD)), (6, .d (.s (.int .i64 (ops.length)))), (7, .d (.s (.int .i64 (k))))], tab none []⟩) (n := ops.length) (h0 := ?h0) (hn := ?hn) (step := ?step)]
    case h0 => rfl
    case hn => exact lt_fuel2 (by omega)
    case step =>
      intro k hk
      have hk1 : (k : Int) < (ops.length : Int) := by omega
      have hk0 : (0 : Int) ≤ k := by omega
      have hkw := wrap_succ k (by omega)
      have hg := hget k (by omega)
      have hn := hno k hk
      generalize ops.getD k op0 = o at hg hn
      have hn' : ¬ (60 : Int) < (o.its.length : Int) := by omega
      simp (decide := true) only [hk1, hk0, hkw, hg, hn', Try.f59, rid, kl59_2, ↓sBp, sBq, List.all_cons, List.all_nil, List.map_cons, List.map_nil, D.shape, Sh.sub, Sh.size, List.getElem?_cons_zero, List.getElem?_cons_succ, Option.bind_some, Option.bind_none, Option.getD_some, Option.getD_none, V.keysIn, V.kill, V.has, decide_eq_true_eq, beq_iff_eq, bne_iff_ne, ne_eq, Bool.not_eq_true', Bool.and_true, Bool.and_self, Bool.true_and, if_true, if_false, reduceIte, Bool.false_eq_true, decide_true, decide_false, beq_self_eq_true, Bool.not_true, Bool.not_false, true_and, and_true, and_self, List.append_assoc, List.nil_append, List.cons_append, Int.toNat_natCast, ck, Int.cast_ofNat_Int, Int.reduceToNat, bne_self_eq_false, Bool.or_false, Bool.false_or, Bool.false_and, Bool.and_false, Bool.or_true, Bool.true_or]
    by_cases h40 : 40 < ops.length
    · have h40' : (40 : Int) < (ops.length : Int) := by omega
      simp (decide := true) only [Int.lt_irrefl, hle, h40', h40, Try.f59, rid, kl59_2, ↓sBp, sBq, List.all_cons, List.all_nil, List.map_cons, List.map_nil, D.shape, Sh.sub, Sh.size, List.getElem?_cons_zero, List.getElem?_cons_succ, Option.bind_some, Option.bind_none, Option.getD_some, Option.getD_none, V.keysIn, V.kill, V.has, decide_eq_true_eq, beq_iff_eq, bne_iff_ne, ne_eq, Bool.not_eq_true', Bool.and_true, Bool.and_self, Bool.true_and, if_true, if_false, reduceIte, Bool.false_eq_true, decide_true, decide_false, beq_self_eq_true, Bool.not_true, Bool.not_false, true_and, and_true, and_self, List.append_assoc, List.nil_append, List.cons_append, Int.toNat_natCast, ck, Int.cast_ofNat_Int, Int.reduceToNat, bne_self_eq_false, Bool.or_false, Bool.false_or, Bool.false_and, Bool.and_false, Bool.or_true, Bool.true_or]
    · have h40' : ¬ (40 : Int) < (ops.length : Int) := by omega
      simp (decide := true) only [Int.lt_irrefl, hle, h40', h40, Try.f59, rid, kl59_2, ↓sBp, sBq, List.all_cons, List.all_nil, List.map_cons, List.map_nil, D.shape, Sh.sub, Sh.size, List.getElem?_cons_zero, List.getElem?_cons_succ, Option.bind_some, Option.bind_none, Option.getD_some, Option.getD_none, V.keysIn, V.kill, V.has, decide_eq_true_eq, beq_iff_eq, bne_iff_ne, ne_eq, Bool.not_eq_true', Bool.and_true, Bool.and_self, Bool.true_and, if_true, if_false, reduceIte, Bool.false_eq_true, decide_true, decide_false, beq_self_eq_true, Bool.not_true, Bool.not_false, true_and, and_true, and_self, List.append_assoc, List.nil_append, List.cons_append, Int.toNat_natCast, ck, Int.cast_ofNat_Int, Int.reduceToNat, bne_self_eq_false, Bool.or_false, Bool.false_or, Bool.false_and, Bool.and_false, Bool.or_true, Bool.true_or]
theorem awake32_ev : evF Try.prog env (xo orc) (29) 60 [] = some (.d (.s (.bool (true)))) := by kernel_rfl
end
end Go.Proofs.Ytfbaikkadndckaa.Ev
