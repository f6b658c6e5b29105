/- The closed run of the laws of lpa. -/
import Derived.Test.YtfbaikkadndckaaG1
namespace Go.Proofs.Ytfbaikkadndckaa.Ev
open Go
attribute [local congr] ob_congr sq_congr cd_congr ite_congr1 iter_congr it1_congr jumps_congr
set_option maxRecDepth 100000
set_option linter.unusedSimpArgs false
set_option linter.unusedVariables false
theorem fWalk : wL.r.d 3 = 9 ∧ wL.r.p 3 = 1 ∧ wL.r.n 3 = 1 ∧ wL.least 3 = 9 := ⟨by kernel_rfl, by kernel_rfl, by kernel_rfl, by kernel_rfl⟩
theorem fOut : (drainI wL 1).length = 4 := by kernel_rfl
theorem fPend : has (dueF aL) 1 = false := by kernel_rfl
theorem fB : lnE aL 1 = 0 ∧ bL.act = 8 ∧ bL.r.d 3 = 4294967295 ∧ bL.ask 1 = 8 ∧ bL.ask 2 = 8 := ⟨by kernel_rfl, by kernel_rfl, by kernel_rfl, by kernel_rfl, by kernel_rfl⟩
theorem fC : lnE bL 1 = 0 ∧ cL.act = 8 := ⟨by kernel_rfl, by kernel_rfl⟩
theorem fD : lnE cL 2 = 0 ∧ dL.act = 0 ∧ dL.r.d 3 = 13 ∧ dL.r.p 3 = 2 ∧ dL.r.n 3 = 2 ∧ dL.least 3 = 13 := ⟨by kernel_rfl, by kernel_rfl, by kernel_rfl, by kernel_rfl, by kernel_rfl, by kernel_rfl⟩
theorem fE : upE wL 1 5 = 10 ∧ lnE wL 3 = 9 ∧ lnE wL 1 = 0 ∧ coE wL 1 9 = 0 ∧ upE wL 0 5 = 1 := ⟨by kernel_rfl, by kernel_rfl, by kernel_rfl, by kernel_rfl, by kernel_rfl⟩
theorem fK : kL.act = 8 ∧ mL.r.d 1 = 9 := ⟨by kernel_rfl, by kernel_rfl⟩
theorem fS1 : evF Try.prog env xt 28 77 [.d (lpD bL)] = some (.d (.s (.bool (true)))) := by kernel_rfl
theorem fS2 : evF Try.prog env xt 28 77 [.d (lpD dL)] = some (.d (.s (.bool (true)))) := by kernel_rfl
section
variable {orc : Value → Option (List Itm)}
theorem hheard_sl (K : Nat) (l : LP) (n : Int) (its : List Itm) (hl : its.length < 1000000) : evF Try.prog env (xo orc) (K+1) 121 [.d (lpD l), .d (.s (.int .i64 (n))), .sl .ro shI (itms its)] = some (.tcons (.d (lpD (heardF l n its))) (.tcons (.d (.s (.int .i64 (lnE l n)))) .tnil)) := by
  have hx : xo orc 121 [.d (lpD l), .d (.s (.int .i64 (n))), .sl .ro shI (itms its)] = heardX xt 20 [.d (lpD l), .d (.s (.int .i64 (n))), .sl .ro shI (itms its)] := by
    unfold xo
    rfl
  have e : xo orc 121 [.d (lpD l), .d (.s (.int .i64 (n))), .sl .ro shI (itms its)] = some (.tcons (.d (lpD (heardF l n its))) (.tcons (.d (.s (.int .i64 (lnE l n)))) .tnil)) := by
    rw [hx]
    exact heard_ev 12 l n its hl
  simp only [evF, e]
theorem zItem : Z68 = itD 0 0 0 0 := nr rfl
theorem walked_ev (K : Nat) : evF Try.prog env (xo orc) (K+10) 114 [] = some (.d (lpD wL)) := by
  rw [evF_eq Try.func114 (show Try.f114.body = some _ from rfl) rfl rfl (by show 0 ≤ 30; decide)]
  have e0 : evF Try.prog env (xo orc) (K+9) 61 [.d (.s (.int .i64 (0)))] = some (.d (lpD (newF 0))) := up_o (lpNew_ev (K+5) 0)
  have e1 : evF Try.prog env (xo orc) (K+9) 118 [.d (lpD (newF 0)), .d (.s (.int .i64 (1))), .d (.s (.int .u32 (5)))] = some (.tcons (.d (lpD w1L)) (.tcons (.d (.s (.int .i64 (upE (newF 0) 1 5)))) .tnil)) := by
    have := up_o (orc := orc) (lpUp_ev K (newF 0) 1 5)
    rw [upF_eq] at this
    exact this
  have e2 : evF Try.prog env (xo orc) (K+9) 118 [.d (lpD w1L), .d (.s (.int .i64 (2))), .d (.s (.int .u32 (1)))] = some (.tcons (.d (lpD w2L)) (.tcons (.d (.s (.int .i64 (upE w1L 2 1)))) .tnil)) := by
    have := up_o (orc := orc) (lpUp_ev K w1L 2 1)
    rw [upF_eq] at this
    exact this
  have e3 : evF Try.prog env (xo orc) (K+9) 121 [.d (lpD w2L), .d (.s (.int .i64 (1))), .sl .ro shI [itD 1 0 0 (-1), itD 3 0 4 1]] = some (.tcons (.d (lpD w3L)) (.tcons (.d (.s (.int .i64 (lnE w2L 1)))) .tnil)) := by
    have := hheard_sl (orc := orc) (K+8) w2L 1 [⟨1, 0, 0, -1⟩, ⟨3, 0, 4, 1⟩] (by decide)
    rw [heardF_eq] at this
    exact this
  have e4 : evF Try.prog env (xo orc) (K+9) 121 [.d (lpD w3L), .d (.s (.int .i64 (2))), .sl .ro shI [itD 2 0 0 (-1), itD 3 0 12 2]] = some (.tcons (.d (lpD wL)) (.tcons (.d (.s (.int .i64 (lnE w3L 2)))) .tnil)) := by
    have := hheard_sl (orc := orc) (K+8) w3L 2 [⟨2, 0, 0, -1⟩, ⟨3, 0, 12, 2⟩] (by decide)
    rw [heardF_eq] at this
    exact this
  have r2 : ∀ z x y : D, (((List.replicate 2 z).set 0 x).set 1 y) = [x, y] := fun _ _ _ => rfl
  generalize newF 0 = l0 at e0 e1
  generalize w1L = l1 at e1 e2
  generalize w2L = l2 at e2 e3
  generalize w3L = l3 at e3 e4
  generalize upE l0 1 5 = x1 at e1
  generalize upE l1 2 1 = x2 at e2
  generalize lnE l2 1 = x3 at e3
  generalize lnE l3 2 = x4 at e4
  simp (decide := true) only [e0, e1, e2, zItem, r2, e3, e4, Try.f114, rid, ↓sBp, sBq, List.all_cons, List.all_nil, List.map_cons, List.map_nil, D.shape, Sh.sub, Sh.size, List.getElem?_cons_zero, List.getElem?_cons_succ, Option.bind_some, Option.bind_none, Option.getD_some, Option.getD_none, V.keysIn, V.kill, V.has, decide_eq_true_eq, beq_iff_eq, bne_iff_ne, ne_eq, Bool.not_eq_true', Bool.and_true, Bool.and_self, Bool.true_and, if_true, if_false, reduceIte, Bool.false_eq_true, decide_true, decide_false, beq_self_eq_true, Bool.not_true, Bool.not_false, true_and, and_true, and_self, List.append_assoc, List.nil_append, List.cons_append, Int.toNat_natCast, ck, Int.cast_ofNat_Int, Int.reduceToNat, bne_self_eq_false, Bool.or_false, Bool.false_or, Bool.false_and, Bool.and_false, Bool.or_true, Bool.true_or]
theorem ifar_ev (K : Nat) (j k : Int) : evF Try.prog env (xo orc) (K+1) 100 [.d (.s (.int .i64 (j))), .d (.s (.int .i64 (k)))] = some (.d (itD j k 4294967295 (-1))) := by
  rw [evF_eq Try.func100 (show Try.f100.body = some _ from rfl) rfl rfl (by show 2 ≤ 8; decide)]
  simp (decide := true) only [zItem, Try.f100, rid, ↓sBp, sBq, List.all_cons, List.all_nil, List.map_cons, List.map_nil, D.shape, Sh.sub, Sh.size, List.getElem?_cons_zero, List.getElem?_cons_succ, Option.bind_some, Option.bind_none, Option.getD_some, Option.getD_none, V.keysIn, V.kill, V.has, decide_eq_true_eq, beq_iff_eq, bne_iff_ne, ne_eq, Bool.not_eq_true', Bool.and_true, Bool.and_self, Bool.true_and, if_true, if_false, reduceIte, Bool.false_eq_true, decide_true, decide_false, beq_self_eq_true, Bool.not_true, Bool.not_false, true_and, and_true, and_self, List.append_assoc, List.nil_append, List.cons_append, Int.toNat_natCast, ck, Int.cast_ofNat_Int, Int.reduceToNat, bne_self_eq_false, Bool.or_false, Bool.false_or, Bool.false_and, Bool.and_false, Bool.or_true, Bool.true_or]
theorem passive_ev (K : Nat) (l : LP) : evF Try.prog env (xo orc) (K+1) 133 [.d (lpD l)] = some (.d (.s (.bool (l.act == 0)))) := by
  rw [evF_eq Try.func133 (show Try.f133.body = some _ from rfl) rfl rfl (by show 1 ≤ 7; decide)]
  simp (decide := true) only [Try.f133, rid, ↓sBp, sBq, List.all_cons, List.all_nil, List.map_cons, List.map_nil, D.shape, Sh.sub, Sh.size, List.getElem?_cons_zero, List.getElem?_cons_succ, Option.bind_some, Option.bind_none, Option.getD_some, Option.getD_none, V.keysIn, V.kill, V.has, decide_eq_true_eq, beq_iff_eq, bne_iff_ne, ne_eq, Bool.not_eq_true', Bool.and_true, Bool.and_self, Bool.true_and, if_true, if_false, reduceIte, Bool.false_eq_true, decide_true, decide_false, beq_self_eq_true, Bool.not_true, Bool.not_false, true_and, and_true, and_self, List.append_assoc, List.nil_append, List.cons_append, Int.toNat_natCast, ck, Int.cast_ofNat_Int, Int.reduceToNat, bne_self_eq_false, Bool.or_false, Bool.false_or, Bool.false_and, Bool.and_false, Bool.or_true, Bool.true_or]
end
end Go.Proofs.Ytfbaikkadndckaa.Ev
