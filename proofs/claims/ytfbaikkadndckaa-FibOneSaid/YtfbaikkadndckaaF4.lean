/- FibOne: of any play of a node, with any states of its ports, each destination that has a way uses just one neighbour, whose port is up, and one that is far has none: the statement. It holds of every input; no condition. -/
import Derived.Test.YtfbaikkadndckaaF1
import Derived.Test.YtfbaikkadndckaaF3
namespace Go.Proofs.Ytfbaikkadndckaa.Ev
open Go
set_option linter.unusedSimpArgs false
set_option linter.unusedVariables false
theorem rem16 {j : Int} (hj : inI j) : ∃ m : Nat, m < 16 ∧ IntKind.i64.wrap ((IntKind.u64.wrap j).tmod 16) = (m : Int) := by
  have e : IntKind.u64.wrap j = j % 18446744073709551616 := rfl
  rw [e]
  have h0 : 0 ≤ j % 18446744073709551616 := by omega
  rw [Int.tmod_eq_emod_of_nonneg h0]
  refine ⟨((j % 18446744073709551616) % 16).toNat, by omega, ?_⟩
  rw [IntWalk.i64_in _ (by omega)]; omega
/-- What is read through a slice in a world. -/
def Reads (W : World) (v : Value) (its : List Itm) : Prop := its ≠ [] ∧ RS W W.heap.size shI (itms its) v ∧ ∀ x, x ∈ its → ItmOK x
noncomputable def orcW (W : World) (v : Value) : Option (List Itm) :=
  haveI := Classical.propDecidable (∃ its, Reads W v its)
  if h : ∃ its, Reads W v its then some (Classical.choose h) else none
theorem orcW_yes {W : World} {v : Value} (h : ∃ its, Reads W v its) : ∃ its, orcW W v = some its ∧ Reads W v its := by
  refine ⟨Classical.choose h, ?_, Classical.choose_spec h⟩
  unfold orcW
  exact dif_pos h
theorem orcW_J (W : World) : JW (orcW W) W.heap.size W := by
  intro v its h
  unfold orcW at h
  split at h
  · rename_i q
    cases h
    exact (Classical.choose_spec q).2.1
  · cases h
theorem pick (W : World) : ∀ (ops : List OpS), (∀ o, o ∈ ops → OpOK o ∧ (o.its ≠ [] → RS W W.heap.size shI (itms o.its) (.slice o.ad o.its.length o.cp))) →
    ∃ ops2 : List OpS, ops2.map opD = ops.map opD ∧ ∀ o, o ∈ ops2 → OpOK o ∧ (o.its ≠ [] → orcW W (.slice o.ad o.its.length o.cp) = some o.its)
  | [], _ => ⟨[], rfl, fun o ho => by cases ho⟩
  | o :: ops, h => by
    obtain ⟨ops2, e2, h2⟩ := pick W ops fun o ho => h o (by simp [ho])
    obtain ⟨h3, h4⟩ := h o (by simp)
    obtain ⟨kd, n, cost, its, ad, cp⟩ := o
    simp only at h4
    by_cases hz : its = []
    · refine ⟨⟨kd, n, cost, its, ad, cp⟩ :: ops2, by rw [List.map_cons, List.map_cons, e2], fun o ho => ?_⟩
      rcases List.mem_cons.1 ho with rfl | ho
      · exact ⟨h3, fun q => absurd hz q⟩
      · exact h2 o ho
    · obtain ⟨its', e3, e4, e5, e6⟩ := orcW_yes (W := W) (v := .slice ad its.length cp) ⟨its, hz, h4 hz, h3.its⟩
      have hl : its'.length = its.length := by
        rcases e5.2 with ⟨q, _⟩ | ⟨g, o, cap, cs, T, fr, _, _, hu, _⟩
        · have : its' = [] := by
            cases its' with
            | nil => rfl
            | cons x r => cases q
          exact absurd this e4
        · simp only [Value.slice.injEq] at hu
          rw [itms_length] at hu
          exact hu.2.1.symm
      refine ⟨⟨kd, n, cost, its', ad, cp⟩ :: ops2, ?_, fun o ho => ?_⟩
      · rw [List.map_cons, List.map_cons, e2]
        show opD ⟨kd, n, cost, its', ad, cp⟩ :: _ = opD ⟨kd, n, cost, its, ad, cp⟩ :: _
        unfold opD
        simp only [hl]
      · rcases List.mem_cons.1 ho with rfl | ho
        · exact ⟨⟨h3.cost, e6⟩, fun _ => by simp only [hl]; exact e3⟩
        · exact h2 o ho
theorem prs_open {x : D} (h : x.shape = .arr 16 shPr) (hw : x.WF) (hf : x.fits) : ∃ q, x = prsD q := by
  obtain ⟨e, q⟩ := arr_open h hw hf
  have one : ∀ y : D, y.shape = shPr → y.WF → y.fits → ∃ a b c e, y = .cons (epD a b) (.cons (epD c e) .nil) := by
    intro y hy wy fy
    obtain ⟨e1, ⟨w1, s1, f1⟩, w2, s2, f2⟩ := cons_open hy wy fy
    obtain ⟨e2, ⟨w3, s3, f3⟩, w4, s4, f4⟩ := cons_open s2 w2 f2
    obtain ⟨e3, ⟨w5, s5, f5⟩, w6, s6, f6⟩ := cons_open s1 w1 f1
    obtain ⟨e4, ⟨w7, s7, f7⟩, w8, s8, f8⟩ := cons_open s6 w6 f6
    obtain ⟨e5, ⟨w9, s9, f9⟩, w10, s10, f10⟩ := cons_open s3 w3 f3
    obtain ⟨e6, ⟨w11, s11, f11⟩, w12, s12, f12⟩ := cons_open s10 w10 f10
    exact ⟨_, _, _, _, e1.trans (cons2 (e3.trans (cons2 (cell_u s5 f5).1 (e4.trans (cons2 (cell_u s7 f7).1 (of_nil s8))))) (e2.trans (cons2 (e5.trans (cons2 (cell_u s9 f9).1 (e6.trans (cons2 (cell_u s11 f11).1 (of_nil s12))))) (of_nil s4))))⟩
  refine ⟨⟨fun i => Classical.choose (one (arrF x i) (q i).2.1 (q i).1 (q i).2.2), fun i => Classical.choose (Classical.choose_spec (one (arrF x i) (q i).2.1 (q i).1 (q i).2.2)), fun i => Classical.choose (Classical.choose_spec (Classical.choose_spec (one (arrF x i) (q i).2.1 (q i).1 (q i).2.2))), fun i => Classical.choose (Classical.choose_spec (Classical.choose_spec (Classical.choose_spec (one (arrF x i) (q i).2.1 (q i).1 (q i).2.2))))⟩, ?_⟩
  exact e.trans (congrArg (D.arr 16 shPr) (funext fun i => Classical.choose_spec (Classical.choose_spec (Classical.choose_spec (Classical.choose_spec (one (arrF x i) (q i).2.1 (q i).1 (q i).2.2)))))) 
theorem fib_open {x : D} (h : x.shape = shF) (hw : x.WF) (hf : x.fits) : ∃ s n q, x = fibD s n q := by
  obtain ⟨e1, ⟨w1, s1, f1⟩, w2, s2, f2⟩ := cons_open h hw hf
  obtain ⟨e2, ⟨w3, s3, f3⟩, w4, s4, f4⟩ := cons_open s2 w2 f2
  obtain ⟨e3, ⟨w5, s5, f5⟩, w6, s6, f6⟩ := cons_open s4 w4 f4
  have q1 := (cell_i s1 f1).1
  obtain ⟨n, q2, _⟩ := arrI_open s3 w3 f3
  obtain ⟨q, q3⟩ := prs_open s5 w5 f5
  exact ⟨_, n, q, e1.trans (cons2 q1 (e2.trans (cons2 q2 (e3.trans (cons2 q3 (of_nil s6))))))⟩
theorem case_open {x : D} (h : x.shape = shCs) (hw : x.WF) (hf : x.fits) : ∃ st s n q, x = caseD st (fibD s n q) := by
  obtain ⟨e1, ⟨w1, s1, f1⟩, w2, s2, f2⟩ := cons_open h hw hf
  obtain ⟨e2, ⟨w3, s3, f3⟩, w4, s4, f4⟩ := cons_open s2 w2 f2
  obtain ⟨st, q1, _⟩ := arrI_open s1 w1 f1
  obtain ⟨s, n, q, q2⟩ := fib_open s3 w3 f3
  exact ⟨st, s, n, q, e1.trans (cons2 q1 (e2.trans (cons2 q2 (of_nil s4))))⟩
theorem inv_play {m : Nat} (hm : m < 16) {ops : List OpS} (h : ∀ o, o ∈ ops → OpOK o) : ∀ k, k ≤ ops.length → Inv (plTo (newF m) ops k)
  | 0, _ => inv_new hm
  | k + 1, hk => by
    rw [plTo_succ]
    refine inv_step (inv_play hm h k (by omega)) (h _ ?_)
    have : ops.getD k op0 = ops[k] := by simp [List.getD, List.getElem?_eq_getElem (show k < ops.length by omega)]
    rw [this]; exact List.getElem_mem _
theorem fibOne_data {orc : Value → Option (List Itm)} (ops : List OpS) (l0 : ops.length ≤ maxLen) (hops : ∀ o, o ∈ ops → OpOK o ∧ (o.its ≠ [] → orc (.slice o.ad o.its.length o.cp) = some o.its)) (x1 : D) (w1 : x1.WF) (s1 : x1.shape = shCs) (f1 : x1.fits) (x2 : D) (w2 : x2.WF) (s2 : x2.shape = cI) (f2 : x2.fits) :
    evF Try.prog env (xo orc) (30) 11 [.sl .ro shO (ops.map opD), .d x1, .d x2] = some (.d (.s (.bool (true)))) := by
  obtain ⟨st, s, f, q, rfl⟩ := case_open s1 w1 f1
  obtain ⟨e2, i2⟩ := cell_i s2 f2
  rw [e2]
  obtain ⟨m, hm, em⟩ := rem16 i2
  refine fibOne_ev ops l0 (fun k hk => ?_) st s f q (intOf x2) m em fun hb A hA F hF => ?_
  · have : ops.getD k op0 = ops[k] := by simp [List.getD, List.getElem?_eq_getElem hk]
    rw [this]
    exact (hops _ (List.getElem_mem _)).2
  · have hI : Inv A := by rw [← hA]; exact inv_play hm (fun o ho => (hops o ho).1) _ (Nat.le_refl _)
    exact fib_one hI st hF
open Go.ChangeShapes Go.WideShapes Go.ChangeAt Go.RowKit
set_option maxRecDepth 100000
theorem own : ownKnob Try.prog.godebug = none := by kernel_rfl
theorem laidOut : laidOutB Try.prog = true := by kernel_rfl
theorem lifted (os : Os) (started : os.Started) (H : Type) (enc : TypeId × Value → H) :
    ReturnsInHanded {} Try.checked os 11 .any (Rows.fibOneSpec.pre6 enc Try.prog Try.f11 Rows.fibOneRow.domain false) (Rows.fibOneSpec.post enc Try.prog Try.f11 false true false false) := by
  refine returnsInHanded_of_change (C := Try.checked) own started (by kernel_rfl) Try.func11
    (ChangeSpec.witness6 (enc := enc) (C := Try.checked) false ⟨#[], #[.slice none 0 0, Z96.val, Z3.val], []⟩ 8 (by kernel_rfl) (by kernel_rfl) (by kernel_rfl) (by kernel_rfl)) ?_
  intro W base args ds gs before hval0 hW hcnd _
  have hval : ∀ (j : Nat) t v, Try.f11.params[j]? = some t → args[j]? = some v → Value.okWide Try.prog W .any base t v := hval0
  have hW' := hW
  obtain ⟨p, q, hA0, hV, rfl, hfz, hnd⟩ := hW
  have hA : DataW.TrodAll enc Try.prog W 0 (fun _ => true) true Try.f11.params.toList args.toList ds p := hA0
  rw [Try.params11] at hA hval
  obtain ⟨v0, vs0, d0, ds0, p0, q0, hargs, rfl, rfl, h0, r0⟩ := trodAll_cons hA
  obtain ⟨v1, vs1, d1, ds1, p1, q1, rfl, rfl, rfl, h1, r1⟩ := trodAll_cons r0
  obtain ⟨v2, vs2, d2, ds2, p2, q2, rfl, rfl, rfl, h2, r2⟩ := trodAll_cons r1
  obtain ⟨rfl, rfl, rfl⟩ := trodAll_nil r2
  obtain rfl : args = #[v0, v1, v2] := by cases args; simp_all
  obtain ⟨rfl, rfl⟩ := trodVars_none hV
  have k0 := h0
  have lt0 : ∀ x ∈ p0, x.block < W.heap.size := by obtain ⟨m, hm⟩ := k0; exact DataW.trod_lt m _ _ _ hm
  have k1 := h1
  have lt1 : ∀ x ∈ p1, x.block < W.heap.size := by obtain ⟨m, hm⟩ := k1; exact DataW.trod_lt m _ _ _ hm
  have k2 := h2
  have lt2 : ∀ x ∈ p2, x.block < W.heap.size := by obtain ⟨m, hm⟩ := k2; exact DataW.trod_lt m _ _ _ hm
  obtain ⟨ops1, rs0, l0, hops1⟩ := open_ops (hval 0 86 v0 rfl rfl) h0
  obtain ⟨ops, eops, hops⟩ := pick W ops1 hops1
  rw [← eops] at rs0
  have l0 : ops.length ≤ maxLen := by
    have : (ops.map opD).length = (ops1.map opD).length := by rw [eops]
    rw [List.length_map, List.length_map] at this
    omega
  obtain ⟨x1, rfl, w1, s1, f1⟩ := open_data (d := 8) (sh := shCs) (by kernel_rfl) (hval 1 96 v1 rfl rfl) h1
  obtain ⟨x2, rfl, w2, s2, f2⟩ := open_data (d := 8) (sh := cI) (by kernel_rfl) (hval 2 3 v2 rfl rfl) h2
  clear hA0 hval0
  refine ((evF_soundJ env_ok fns_ok (J := JW (orcW W) W.heap.size) (B0 := W.heap.size) JW_below (ext := xo (orcW W)) xo_ok 30 11 _ _ (fibOne_data ops l0 hops x1 w1 s1 f1 x2 w2 s2 f2) W (orcW_J W) (Nat.le_refl _)).run [v0, x1.val, x2.val] ⟨rs0, ⟨w1, rfl⟩, ⟨w2, rfl⟩, trivial⟩).mono fun e W' ⟨u, he, bel0, hr⟩ => ?_
  have bel := bel0.toK
  obtain rfl : u = .bool true := hr.2
  subst he
  exact ⟨_, rfl, _, _, _, [], _, [], hW', trodAll_mk1 (shut_bool Try.underlying4 _), trodAll_cons_mk (Go.RowKit.Below.trod laidOut (by kernel_rfl) (of_decide_eq_true (by kernel_rfl)) k0 bel lt0) (trodAll_cons_mk (Go.RowKit.Below.trod laidOut (by kernel_rfl) (of_decide_eq_true (by kernel_rfl)) k1 bel lt1) (trodAll_cons_mk (Go.RowKit.Below.trod laidOut (by kernel_rfl) (of_decide_eq_true (by kernel_rfl)) k2 bel lt2) trodAll_mk0)), rfl, bel.frame _, fun h => by cases h⟩
theorem over : Rows.fibOneRow.holds Try.pinned (OpenSpec.ofChange Rows.fibOneSpec) :=
  OpenClaim.holds_of_wide 11 Try.f11 rfl rfl rfl rfl rfl rfl rfl ⟨rfl, rfl, rfl, rfl, rfl⟩ rfl rfl rfl rfl rfl (by kernel_rfl) Try.func11 (by kernel_rfl)
    (of_decide_eq_true (by kernel_rfl)) (by unfold Func.isWrapper; first | (rw [if_pos (by decide +kernel)]; kernel_rfl) | (rw [if_neg (by decide +kernel)]; exact ⟨rfl, rfl⟩))
    (fun os started H enc _ => lifted os started H enc)
theorem fibOne_proved : Rows.FibOneSaid := over
#print axioms fibOne_proved
end Go.Proofs.Ytfbaikkadndckaa.Ev
