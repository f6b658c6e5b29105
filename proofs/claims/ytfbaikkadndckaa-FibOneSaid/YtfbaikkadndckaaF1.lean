/- The law FibOne, run. -/
import Derived.Test.YtfbaikkadndckaaLy
import Derived.Test.YtfbaikkadndckaaLz
namespace Go.Proofs.Ytfbaikkadndckaa.Ev
open Go
attribute [local congr] ob_congr sq_congr cd_congr ite_congr1 iter_congr it1_congr jumps_congr
set_option maxRecDepth 100000
set_option linter.unusedSimpArgs false
set_option linter.unusedVariables false
def remN (j : Int) : Int := IntKind.i64.wrap ((IntKind.u64.wrap j).tmod 16)
noncomputable def plTo (l : LP) (ops : List OpS) (k : Nat) : LP := upto (fun i l => stepF l (ops.getD i op0)) l k
theorem plTo_succ (l : LP) (ops : List OpS) (k : Nat) : plTo l ops (k + 1) = stepF (plTo l ops k) (ops.getD k op0) := by simp only [plTo, upto]
def allTo (F : Nat → Int) (k : Nat) : Int := upto (fun k a => bits .or .i64 a (setOf (useC F k) 16)) 0 k
theorem allTo_succ (F : Nat → Int) (k : Nat) : allTo F (k + 1) = bits .or .i64 (allTo F k) (setOf (useC F k) 16) := by simp only [allTo, upto]
set_option maxHeartbeats 4000000 in
theorem fibOne_ev {orc : Value → Option (List Itm)} (ops : List OpS) (hops : ops.length ≤ maxLen) (ho : ∀ k, k < ops.length → (ops.getD k op0).its ≠ [] → orc (.slice (ops.getD k op0).ad (ops.getD k op0).its.length (ops.getD k op0).cp) = some (ops.getD k op0).its)
    (st : Nat → Int) (s : Int) (f : Nat → Int) (q : Prs) (n m : Int) (hm : remN n = m)
    (h : longB ops = false → ∀ A : LP, plTo (newF m) ops ops.length = A → ∀ F : Nat → Int, nxTo (sT st) A.r.n 16 = F →
      (∀ k : Nat, k < 16 → bits .and .i64 (setOf (useC F k) 16) (allTo F k) = 0) ∧ (∀ k : Nat, k < 16 → setOf (useC F k) 16 ≠ 0 → st k = 2) ∧ (∀ j : Nat, j < 16 → has (allTo F 16) j = true → A.r.d j ≠ 4294967295) ∧ allTo F 16 = setOf (wyC F) 16) :
    evF Try.prog env (xo orc) (30) 11 [.sl .ro shO (ops.map opD), .d (caseD st (fibD s f q)), .d (.s (.int .i64 (n)))] = some (.d (.s (.bool (true)))) := by
  rw [evF_eq Try.func11 (show Try.f11.body = some _ from rfl) rfl rfl (by show 3 ≤ 88; decide)]
  have hm' : IntKind.i64.wrap ((IntKind.u64.wrap n).tmod 16) = m := hm
  have h16 : (16 : Int) ≠ 0 := by decide
  have eL : evF Try.prog env (xo orc) (29) 59 [.sl .ro shO (ops.map opD)] = some (.d (.s (.bool (longB ops)))) := long32_ev 28 ops hops
  have hle : (ops.map opD).length = ops.length := List.length_map ..
  rcases Bool.eq_false_or_eq_true (longB ops) with hb | hb
  · rw [hb] at eL
    simp (decide := true) only [eL, awake32_ev, Try.f11, rid, kl11_5, kl11_12, kl11_20, dp11_9, ↓sBp, sBq, List.all_cons, List.all_nil, List.map_cons, List.map_nil, D.shape, Sh.sub, Sh.size, List.getElem?_cons_zero, List.getElem?_cons_succ, Option.bind_some, Option.bind_none, Option.getD_some, Option.getD_none, V.keysIn, V.kill, V.has, decide_eq_true_eq, beq_iff_eq, bne_iff_ne, ne_eq, Bool.not_eq_true', Bool.and_true, Bool.and_self, Bool.true_and, if_true, if_false, reduceIte, Bool.false_eq_true, decide_true, decide_false, beq_self_eq_true, Bool.not_true, Bool.not_false, true_and, and_true, and_self, List.append_assoc, List.nil_append, List.cons_append, Int.toNat_natCast, ck, Int.cast_ofNat_Int, Int.reduceToNat, bne_self_eq_false, Bool.or_false, Bool.false_or, Bool.false_and, Bool.and_false, Bool.or_true, Bool.true_or]
  rw [hb] at eL
  have eN : evF Try.prog env (xo orc) (29) 61 [.d (.s (.int .i64 (m)))] = some (.d (lpD (newF m))) := up_o (lpNew_ev 25 m)
  have h := h hb _ rfl _ rfl
  have hlens := (longB_facts hb).2
  have hlen40 := (longB_facts hb).1
  simp (decide := true) only [eL, hm', h16, eN, hle, Try.f11, rid, kl11_5, kl11_12, kl11_20, dp11_9, ↓sBp, sBq, List.all_cons, List.all_nil, List.map_cons, List.map_nil, D.shape, Sh.sub, Sh.size, List.getElem?_cons_zero, List.getElem?_cons_succ, Option.bind_some, Option.bind_none, Option.getD_some, Option.getD_none, V.keysIn, V.kill, V.has, decide_eq_true_eq, beq_iff_eq, bne_iff_ne, ne_eq, Bool.not_eq_true', Bool.and_true, Bool.and_self, Bool.true_and, if_true, if_false, reduceIte, Bool.false_eq_true, decide_true, decide_false, beq_self_eq_true, Bool.not_true, Bool.not_false, true_and, and_true, and_self, List.append_assoc, List.nil_append, List.cons_append, Int.toNat_natCast, ck, Int.cast_ofNat_Int, Int.reduceToNat, bne_self_eq_false, Bool.or_false, Bool.false_or, Bool.false_and, Bool.and_false, Bool.or_true, Bool.true_or]
  rw [iter_run (S := fun k => ⟨tab .junk [(4, .ptr 4 (shCs) [] (shCs)), (7, .ptr 7 (shL) [] (shL)), (23, .sl .ro shO (ops.map opD)), (24, .d (.s (.int .i64 (ops.length)))), (25, .d (.s (.int .i64 (k))))], tab none [(4, some (.box (caseD st (fibD s f q)))), (7, some (.box (lpD (plTo (newF m) ops k))))]⟩) (n := ops.length) (h0 := ?h0) (hn := ?hn) (step := ?step)]
  case h0 => rfl
  case hn => exact lt_loopFuel (by omega)
  case step =>
    intro k hk
    have hk1 : (k : Int) < (ops.length : Int) := by omega
    have hk0 : (0 : Int) ≤ k := by omega
    have hkw := wrap_succ k (by omega)
    have hg : (ops.map opD)[k]? = some (opD (ops.getD k op0)) := by simp [List.getD, List.getElem?_eq_getElem hk]
    have es := plTo_succ (newF m) ops k
    have hoo := ho k hk
    have hll := hlens k hk
    generalize ops.getD k op0 = o at hg es hoo hll
    generalize plTo (newF m) ops k = l at es
    have eS := step_ev (orc := orc) 19 l o hoo (by omega)
    generalize stepF l o = l' at es eS
    simp (decide := true) only [hk1, hk0, hkw, hg, eS, es, Try.f11, rid, kl11_5, kl11_12, kl11_20, dp11_9, ↓sBp, sBq, List.all_cons, List.all_nil, List.map_cons, List.map_nil, D.shape, Sh.sub, Sh.size, List.getElem?_cons_zero, List.getElem?_cons_succ, Option.bind_some, Option.bind_none, Option.getD_some, Option.getD_none, V.keysIn, V.kill, V.has, decide_eq_true_eq, beq_iff_eq, bne_iff_ne, ne_eq, Bool.not_eq_true', Bool.and_true, Bool.and_self, Bool.true_and, if_true, if_false, reduceIte, Bool.false_eq_true, decide_true, decide_false, beq_self_eq_true, Bool.not_true, Bool.not_false, true_and, and_true, and_self, List.append_assoc, List.nil_append, List.cons_append, Int.toNat_natCast, ck, Int.cast_ofNat_Int, Int.reduceToNat, bne_self_eq_false, Bool.or_false, Bool.false_or, Bool.false_and, Bool.and_false, Bool.or_true, Bool.true_or]
  generalize plTo (newF m) ops ops.length = A at h ⊢
  have eP : evF Try.prog env (xo orc) (29) 64 [.d (caseD st (fibD s f q))] = some (.d (portsD (sT st) aT (fun _ => 0) cT eT)) := up_o (ports_ev 27 st s f q)
  have eO : evF Try.prog env (xo orc) (29) 63 [.d (lpD A), .d (portsD (sT st) aT (fun _ => 0) cT eT)] = _ := up_o (fibOf_ev 26 A (sT st) aT (fun _ => 0) cT eT)
  generalize nxTo (sT st) A.r.n 16 = F at h eO
  generalize prTo (sT st) aT (fun _ => 0) cT eT 16 = Q at eO
  obtain ⟨h1, h2, h3, h4⟩ := h
  have eU : ∀ k : Int, evF Try.prog env (xo orc) (29) 65 [.d (fibD A.k.self F Q), .d (.s (.int .i64 (k)))] = some (.d (.s (.int .i64 (setOf (useC F k) 16)))) := fun k => up_o (fibUses_ev 25 A.k.self F Q k)
  have eW : evF Try.prog env (xo orc) (29) 66 [.d (fibD A.k.self F Q)] = some (.d (.s (.int .i64 (setOf (wyC F) 16)))) := up_o (fibWays_ev 25 A.k.self F Q)
  have eH : ∀ a b : Int, evF Try.prog env (xo orc) (29) 18 [.d (.s (.int .i64 (a))), .d (.s (.int .i64 (b)))] = some (.d (.s (.bool (has a b)))) := fun a b => up_o (has_ev 27 a b)
  simp (decide := true) only [Int.lt_irrefl, eP, eO, zFib, Try.f11, rid, kl11_5, kl11_12, kl11_20, dp11_9, ↓sBp, sBq, List.all_cons, List.all_nil, List.map_cons, List.map_nil, D.shape, Sh.sub, Sh.size, List.getElem?_cons_zero, List.getElem?_cons_succ, Option.bind_some, Option.bind_none, Option.getD_some, Option.getD_none, V.keysIn, V.kill, V.has, decide_eq_true_eq, beq_iff_eq, bne_iff_ne, ne_eq, Bool.not_eq_true', Bool.and_true, Bool.and_self, Bool.true_and, if_true, if_false, reduceIte, Bool.false_eq_true, decide_true, decide_false, beq_self_eq_true, Bool.not_true, Bool.not_false, true_and, and_true, and_self, List.append_assoc, List.nil_append, List.cons_append, Int.toNat_natCast, ck, Int.cast_ofNat_Int, Int.reduceToNat, bne_self_eq_false, Bool.or_false, Bool.false_or, Bool.false_and, Bool.and_false, Bool.or_true, Bool.true_or]
  rw [iter_run (S := fun k => ⟨tab .junk [(4, .ptr 4 (shCs) [] (shCs)), (7, .ptr 7 (shL) [] (shL)), (10, .ptr 10 (shF) [] (shF)), (11, .d (.s (.int .i64 (allTo F k)))), (41, .d (.s (.int .i64 (k))))], tab none [(4, some (.box (caseD st (fibD s f q)))), (7, some (.box (lpD A))), (10, some (.box (fibD A.k.self F Q)))]⟩) (n := 16) (h0 := ?h0) (hn := lt_loopFuel (by decide)) (step := ?step)]
  case h0 => rfl
  case step =>
    intro k hk
    have hk1 : (k : Int) < 16 := by omega
    have hk0 : (0 : Int) ≤ k := by omega
    have hkw := wrap_succ k (by omega)
    have es := allTo_succ F k
    have g1 := h1 k hk
    have g2 := h2 k hk
    have eU := eU k
    generalize allTo F k = a at es g1
    generalize setOf (useC F k) 16 = u at es g1 g2 eU
    have g1' : (bits .and .i64 u a != 0) = false := by rw [g1]; rfl
    rcases Bool.eq_false_or_eq_true (u != 0) with g3 | g3
    · have g4 : (st k != 2) = false := by rw [g2 (by simpa using g3)]; rfl
      simp (decide := true) only [hk1, hk0, hkw, eU, g1', g3, g4, es, Try.f11, rid, kl11_5, kl11_12, kl11_20, dp11_9, ↓sBp, sBq, List.all_cons, List.all_nil, List.map_cons, List.map_nil, D.shape, Sh.sub, Sh.size, List.getElem?_cons_zero, List.getElem?_cons_succ, Option.bind_some, Option.bind_none, Option.getD_some, Option.getD_none, V.keysIn, V.kill, V.has, decide_eq_true_eq, beq_iff_eq, bne_iff_ne, ne_eq, Bool.not_eq_true', Bool.and_true, Bool.and_self, Bool.true_and, if_true, if_false, reduceIte, Bool.false_eq_true, decide_true, decide_false, beq_self_eq_true, Bool.not_true, Bool.not_false, true_and, and_true, and_self, List.append_assoc, List.nil_append, List.cons_append, Int.toNat_natCast, ck, Int.cast_ofNat_Int, Int.reduceToNat, bne_self_eq_false, Bool.or_false, Bool.false_or, Bool.false_and, Bool.and_false, Bool.or_true, Bool.true_or]
    · simp (decide := true) only [hk1, hk0, hkw, eU, g1', g3, es, Try.f11, rid, kl11_5, kl11_12, kl11_20, dp11_9, ↓sBp, sBq, List.all_cons, List.all_nil, List.map_cons, List.map_nil, D.shape, Sh.sub, Sh.size, List.getElem?_cons_zero, List.getElem?_cons_succ, Option.bind_some, Option.bind_none, Option.getD_some, Option.getD_none, V.keysIn, V.kill, V.has, decide_eq_true_eq, beq_iff_eq, bne_iff_ne, ne_eq, Bool.not_eq_true', Bool.and_true, Bool.and_self, Bool.true_and, if_true, if_false, reduceIte, Bool.false_eq_true, decide_true, decide_false, beq_self_eq_true, Bool.not_true, Bool.not_false, true_and, and_true, and_self, List.append_assoc, List.nil_append, List.cons_append, Int.toNat_natCast, ck, Int.cast_ofNat_Int, Int.reduceToNat, bne_self_eq_false, Bool.or_false, Bool.false_or, Bool.false_and, Bool.and_false, Bool.or_true, Bool.true_or]
  simp (decide := true) only [Try.f11, rid, kl11_5, kl11_12, kl11_20, dp11_9, ↓sBp, sBq, List.all_cons, List.all_nil, List.map_cons, List.map_nil, D.shape, Sh.sub, Sh.size, List.getElem?_cons_zero, List.getElem?_cons_succ, Option.bind_some, Option.bind_none, Option.getD_some, Option.getD_none, V.keysIn, V.kill, V.has, decide_eq_true_eq, beq_iff_eq, bne_iff_ne, ne_eq, Bool.not_eq_true', Bool.and_true, Bool.and_self, Bool.true_and, if_true, if_false, reduceIte, Bool.false_eq_true, decide_true, decide_false, beq_self_eq_true, Bool.not_true, Bool.not_false, true_and, and_true, and_self, List.append_assoc, List.nil_append, List.cons_append, Int.toNat_natCast, ck, Int.cast_ofNat_Int, Int.reduceToNat, bne_self_eq_false, Bool.or_false, Bool.false_or, Bool.false_and, Bool.and_false, Bool.or_true, Bool.true_or]
  rw [iter_run (S := fun k => ⟨tab .junk [(7, .ptr 7 (shL) [] (shL)), (10, .ptr 10 (shF) [] (shF)), (11, .d (.s (.int .i64 (allTo F 16)))), (66, .d (.s (.int .i64 (k))))], tab none [(7, some (.box (lpD A))), (10, some (.box (fibD A.k.self F Q)))]⟩) (n := 16) (h0 := ?h0) (hn := lt_loopFuel (by decide)) (step := ?step)]
  case h0 => rfl
  case step =>
    intro k hk
    have hk1 : (k : Int) < 16 := by omega
    have hk0 : (0 : Int) ≤ k := by omega
    have hkw := wrap_succ k (by omega)
    have g := h3 k hk
    rcases Bool.eq_false_or_eq_true (has (allTo F 16) k) with g1 | g1
    · have g2 : (A.r.d k == 4294967295) = false := by simpa using g g1
      simp (decide := true) only [hk1, hk0, hkw, eH, g1, g2, Try.f11, rid, kl11_5, kl11_12, kl11_20, dp11_9, ↓sBp, sBq, List.all_cons, List.all_nil, List.map_cons, List.map_nil, D.shape, Sh.sub, Sh.size, List.getElem?_cons_zero, List.getElem?_cons_succ, Option.bind_some, Option.bind_none, Option.getD_some, Option.getD_none, V.keysIn, V.kill, V.has, decide_eq_true_eq, beq_iff_eq, bne_iff_ne, ne_eq, Bool.not_eq_true', Bool.and_true, Bool.and_self, Bool.true_and, if_true, if_false, reduceIte, Bool.false_eq_true, decide_true, decide_false, beq_self_eq_true, Bool.not_true, Bool.not_false, true_and, and_true, and_self, List.append_assoc, List.nil_append, List.cons_append, Int.toNat_natCast, ck, Int.cast_ofNat_Int, Int.reduceToNat, bne_self_eq_false, Bool.or_false, Bool.false_or, Bool.false_and, Bool.and_false, Bool.or_true, Bool.true_or]
    · simp (decide := true) only [hk1, hk0, hkw, eH, g1, Try.f11, rid, kl11_5, kl11_12, kl11_20, dp11_9, ↓sBp, sBq, List.all_cons, List.all_nil, List.map_cons, List.map_nil, D.shape, Sh.sub, Sh.size, List.getElem?_cons_zero, List.getElem?_cons_succ, Option.bind_some, Option.bind_none, Option.getD_some, Option.getD_none, V.keysIn, V.kill, V.has, decide_eq_true_eq, beq_iff_eq, bne_iff_ne, ne_eq, Bool.not_eq_true', Bool.and_true, Bool.and_self, Bool.true_and, if_true, if_false, reduceIte, Bool.false_eq_true, decide_true, decide_false, beq_self_eq_true, Bool.not_true, Bool.not_false, true_and, and_true, and_self, List.append_assoc, List.nil_append, List.cons_append, Int.toNat_natCast, ck, Int.cast_ofNat_Int, Int.reduceToNat, bne_self_eq_false, Bool.or_false, Bool.false_or, Bool.false_and, Bool.and_false, Bool.or_true, Bool.true_or]
  have h5 : (allTo F 16 == setOf (wyC F) 16) = true := by rw [h4]; simp
  simp (decide := true) only [eW, h5, awake32_ev, Try.f11, rid, kl11_5, kl11_12, kl11_20, dp11_9, ↓sBp, sBq, List.all_cons, List.all_nil, List.map_cons, List.map_nil, D.shape, Sh.sub, Sh.size, List.getElem?_cons_zero, List.getElem?_cons_succ, Option.bind_some, Option.bind_none, Option.getD_some, Option.getD_none, V.keysIn, V.kill, V.has, decide_eq_true_eq, beq_iff_eq, bne_iff_ne, ne_eq, Bool.not_eq_true', Bool.and_true, Bool.and_self, Bool.true_and, if_true, if_false, reduceIte, Bool.false_eq_true, decide_true, decide_false, beq_self_eq_true, Bool.not_true, Bool.not_false, true_and, and_true, and_self, List.append_assoc, List.nil_append, List.cons_append, Int.toNat_natCast, ck, Int.cast_ofNat_Int, Int.reduceToNat, bne_self_eq_false, Bool.or_false, Bool.false_or, Bool.false_and, Bool.and_false, Bool.or_true, Bool.true_or]
end Go.Proofs.Ytfbaikkadndckaa.Ev
