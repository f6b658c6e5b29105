/- The closed run of the laws of lpa, put together. -/
import Derived.Test.YtfbaikkadndckaaG2
namespace Go.Proofs.Ytfbaikkadndckaa.Ev
open Go
attribute [local congr] ob_congr sq_congr cd_congr ite_congr1 iter_congr it1_congr jumps_congr
set_option maxRecDepth 100000
set_option linter.unusedSimpArgs false
set_option linter.unusedVariables false
theorem app_nil {α : Type} (m : List α) : List.append [] m = m := nr rfl
theorem app_cons {α : Type} (a : α) (l m : List α) : List.append (a :: l) m = a :: List.append l m := nr rfl
section
variable {orc : Value → Option (List Itm)}
theorem rowEq (a b c x y z : Int) : (D.cons (.s (.int .u32 a)) (.cons (.s (.int .i64 b)) (.cons (.s (.int .i64 c)) .nil))).eqv (.cons (.s (.int .u32 x)) (.cons (.s (.int .i64 y)) (.cons (.s (.int .i64 z)) .nil))) = ((a == x) && ((b == y) && ((c == z) && true))) := nr rfl
set_option maxHeartbeats 8000000 in
theorem awake31_ev : evF Try.prog env (xo orc) (29) 76 [] = some (.d (.s (.bool (true)))) := by
  rw [evF_eq Try.func76 (show Try.f76.body = some _ from rfl) rfl rfl (by show 0 ≤ 194; decide)]
  have e1 := walked_ev (orc := orc) 18
  have e2 : evF Try.prog env (xo orc) (28) 122 [.d (lpD wL), .d (.s (.int .i64 (1)))] = some (.tcons (.d (lpD aL)) (.tcons (.sl .ro shI (drainI wL 1)) .tnil)) := up_o (drain_ev 22 wL 1)
  have e3 : evF Try.prog env (xo orc) (28) 121 [.d (lpD aL), .d (.s (.int .i64 (1))), .sl .ro shI [itD 3 0 4294967295 (-1)]] = some (.tcons (.d (lpD bL)) (.tcons (.d (.s (.int .i64 (lnE aL 1)))) .tnil)) := by
    have := hheard_sl (orc := orc) 27 aL 1 [⟨3, 0, 4294967295, -1⟩] (by decide)
    rw [heardF_eq] at this
    exact this
  have e4 : evF Try.prog env (xo orc) (28) 121 [.d (lpD bL), .d (.s (.int .i64 (1))), .sl .ro shI [itD 3 2 4294967295 (-1)]] = some (.tcons (.d (lpD cL)) (.tcons (.d (.s (.int .i64 (lnE bL 1)))) .tnil)) := by
    have := hheard_sl (orc := orc) 27 bL 1 [⟨3, 2, 4294967295, -1⟩] (by decide)
    rw [heardF_eq] at this
    exact this
  have e5 : evF Try.prog env (xo orc) (28) 121 [.d (lpD cL), .d (.s (.int .i64 (2))), .sl .ro shI [itD 3 2 12 2]] = some (.tcons (.d (lpD dL)) (.tcons (.d (.s (.int .i64 (lnE cL 2)))) .tnil)) := by
    have := hheard_sl (orc := orc) 27 cL 2 [⟨3, 2, 12, 2⟩] (by decide)
    rw [heardF_eq] at this
    exact this
  have e6 : evF Try.prog env (xo orc) (28) 118 [.d (lpD wL), .d (.s (.int .i64 (1))), .d (.s (.int .u32 (5)))] = some (.tcons (.d (lpD (upF wL 1 5))) (.tcons (.d (.s (.int .i64 (upE wL 1 5)))) .tnil)) := up_o (lpUp_ev 19 wL 1 5)
  have e7 : evF Try.prog env (xo orc) (28) 119 [.d (lpD wL), .d (.s (.int .i64 (3)))] = some (.tcons (.d (lpD (downF wL 3))) (.tcons (.d (.s (.int .i64 (lnE wL 3)))) .tnil)) := up_o (lpDown_ev 19 wL 3)
  have e8 : evF Try.prog env (xo orc) (28) 119 [.d (lpD wL), .d (.s (.int .i64 (1)))] = some (.tcons (.d (lpD kL)) (.tcons (.d (.s (.int .i64 (lnE wL 1)))) .tnil)) := by
    have := up_o (orc := orc) (lpDown_ev 19 wL 1)
    rw [downF_eq] at this
    exact this
  have e9 : evF Try.prog env (xo orc) (28) 120 [.d (lpD wL), .d (.s (.int .i64 (1))), .d (.s (.int .u32 (9)))] = some (.tcons (.d (lpD mL)) (.tcons (.d (.s (.int .i64 (coE wL 1 9)))) .tnil)) := by
    have := up_o (orc := orc) (lpCost_ev 19 wL 1 9)
    rw [costF_eq] at this
    exact this
  have e10 : evF Try.prog env (xo orc) (28) 118 [.d (lpD wL), .d (.s (.int .i64 (0))), .d (.s (.int .u32 (5)))] = some (.tcons (.d (lpD (upF wL 0 5))) (.tcons (.d (.s (.int .i64 (upE wL 0 5)))) .tnil)) := up_o (lpUp_ev 19 wL 0 5)
  have e11 : evF Try.prog env (xo orc) (28) 132 [.d (lpD aL), .d (.s (.int .i64 (1)))] = some (.d (.s (.bool (has (dueF aL) 1)))) := up_o (pending_ev 23 aL 1)
  have e12 : evF Try.prog env (xo orc) (28) 77 [.d (lpD bL)] = some (.d (.s (.bool (true)))) := up_o fS1
  have e13 : evF Try.prog env (xo orc) (28) 77 [.d (lpD dL)] = some (.d (.s (.bool (true)))) := up_o fS2
  rw [fPend] at e11
  have r1 : ∀ z x : D, ((List.replicate 1 z).set 0 x) = [x] := fun _ _ => rfl
  obtain ⟨a1, a2, a3, a4⟩ := fWalk
  have a5 := fOut
  obtain ⟨b1, b2, b3, b4, b5⟩ := fB
  obtain ⟨c1, c2⟩ := fC
  obtain ⟨d1, d2, d3, d4, d5, d6⟩ := fD
  obtain ⟨g1, g2, g3, g4, g5⟩ := fE
  obtain ⟨k1, k2⟩ := fK
  rw [b1] at e3
  rw [c1] at e4
  rw [d1] at e5
  rw [g1] at e6
  rw [g2] at e7
  rw [g3] at e8
  rw [g4] at e9
  rw [g5] at e10
  have hp := passive_ev (orc := orc) 27 dL
  rw [d2] at hp
  generalize wL = w at e1 e2 e6 e7 e8 e9 e10 a1 a2 a3 a4 a5
  generalize drainI w 1 = out at e2 a5
  generalize upF w 1 5 = u1 at e6
  generalize upF w 0 5 = u2 at e10
  generalize downF w 3 = u3 at e7
  generalize aL = a at e2 e3 e11
  generalize bL = b at e3 e4 e12 b2 b3 b4 b5
  generalize cL = c at e4 e5 c2
  generalize dL = d at e5 e13 d2 d3 d4 d5 d6 hp
  generalize kL = kk at e8 k1
  generalize mL = mm at e9 k2
  have a5' : ((out.length : Int) == 4) = true := by rw [a5]; rfl
  simp (decide := true) only [app_nil, app_cons, e1, e2, ifar_ev, r1, zItem, e3, e4, e5, e6, e7, e8, e9, e10, e11, e12, e13, hp, rowEq, a1, a2, a3, a4, a5', b2, b3, b4, b5, c2, d3, d4, d5, d6, k1, k2, Try.f76, rid, dp76_3, dp76_4, ↓sBp, sBq, List.all_cons, List.all_nil, List.map_cons, List.map_nil, D.shape, Sh.sub, Sh.size, List.getElem?_cons_zero, List.getElem?_cons_succ, Option.bind_some, Option.bind_none, Option.getD_some, Option.getD_none, V.keysIn, V.kill, V.has, decide_eq_true_eq, beq_iff_eq, bne_iff_ne, ne_eq, Bool.not_eq_true', Bool.and_true, Bool.and_self, Bool.true_and, if_true, if_false, reduceIte, Bool.false_eq_true, decide_true, decide_false, beq_self_eq_true, Bool.not_true, Bool.not_false, true_and, and_true, and_self, List.append_assoc, List.nil_append, List.cons_append, Int.toNat_natCast, ck, Int.cast_ofNat_Int, Int.reduceToNat, bne_self_eq_false, Bool.or_false, Bool.false_or, Bool.false_and, Bool.and_false, Bool.or_true, Bool.true_or]
end
end Go.Proofs.Ytfbaikkadndckaa.Ev
