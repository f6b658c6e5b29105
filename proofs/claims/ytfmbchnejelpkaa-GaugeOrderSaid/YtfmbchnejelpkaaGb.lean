/- GaugeOrder: it is an order: one way and the other are opposites, what is ahead of what is ahead is ahead, and nothing is ahead of itself: the statement. -/
import Derived.Test.YtfmbchnejelpkaaGa
import Derived.Test.YtfmbchnejelpkaaRows
import Derived.Test.YtfmbchnejelpkaaEvF
import Derived.ProofKit
import Derived.OpenShut
namespace Go.Proofs.Ytfmbchnejelpkaa.Ev
open Go
attribute [local congr] ob_congr sq_congr cd_congr ite_congr1 iter_congr it1_congr jumps_congr
set_option maxRecDepth 100000
set_option linter.unusedSimpArgs false
set_option linter.unusedVariables false
theorem evUn_negI (k : IntKind) (n : Int) : evUn .neg (.d (.s (.int k n))) = some (.d (.s (.int k (k.wrap (0 - n))))) := nr rfl
theorem gaugeOrder_ev (a b c : Nat) (h1 : ord b a = - ord a b) (h2 : ord a a = 0) (h3 : fsame a b = (ord a b == 0)) (h4 : ord a b ≤ 0 → ord b c ≤ 0 → ord a c ≤ 0) (h5 : ord a b = -1 ∨ ord a b = 0 ∨ ord a b = 1) :
    evF Try.prog env xf (30) 3 [.d (dF a), .d (dF b), .d (dF c)] = some (.d (.s (.bool (true)))) := by
  rw [evF_eq Try.func3 (show Try.f3.body = some _ from rfl) rfl rfl (by show 3 ≤ 56; decide)]
  have w1 : IntKind.i64.wrap (0 - 1) = -1 := by decide
  have w2 : IntKind.i64.wrap (0 - -1) = 1 := by decide
  have w3 : IntKind.i64.wrap (0 - 0) = 0 := by decide
  have h3' := h3
  rcases h5 with h | h | h <;> rw [h] at h1 h3 h4
  · replace h1 : ord b a = 1 := by omega
    replace h3 : fsame a b = false := h3
    have h4 := h4 (by omega)
    rcases Bool.eq_false_or_eq_true (decide (0 < ord b c)) with h6 | h6
    · simp (decide := true) only [ord_ev, same_ev, awake_ev, evUn_negI, h, h1, h2, h3, h6, w1, w2, w3, Try.f3, rid, ↓sBp, sBq, List.all_cons, List.all_nil, List.map_cons, List.map_nil, D.shape, Sh.sub, Sh.size, List.getElem?_cons_zero, List.getElem?_cons_succ, Option.bind_some, Option.bind_none, Option.getD_some, Option.getD_none, V.keysIn, V.kill, V.has, decide_eq_true_eq, beq_iff_eq, bne_iff_ne, ne_eq, Bool.not_eq_true', Bool.and_true, Bool.and_self, Bool.true_and, if_true, if_false, reduceIte, Bool.false_eq_true, decide_true, decide_false, beq_self_eq_true, Bool.not_true, Bool.not_false, true_and, and_true, and_self, List.append_assoc, List.nil_append, List.cons_append, Int.toNat_natCast, ck, Int.cast_ofNat_Int, Int.reduceToNat, bne_self_eq_false, Bool.or_false, Bool.false_or, Bool.false_and, Bool.and_false, Bool.or_true, Bool.true_or]
    · have h7 : decide (ord a c ≤ 0) = true := by rw [decide_eq_true_iff]; exact h4 (by rw [decide_eq_false_iff_not] at h6; omega)
      simp (decide := true) only [ord_ev, same_ev, awake_ev, evUn_negI, h, h1, h2, h3, h6, h7, w1, w2, w3, Try.f3, rid, ↓sBp, sBq, List.all_cons, List.all_nil, List.map_cons, List.map_nil, D.shape, Sh.sub, Sh.size, List.getElem?_cons_zero, List.getElem?_cons_succ, Option.bind_some, Option.bind_none, Option.getD_some, Option.getD_none, V.keysIn, V.kill, V.has, decide_eq_true_eq, beq_iff_eq, bne_iff_ne, ne_eq, Bool.not_eq_true', Bool.and_true, Bool.and_self, Bool.true_and, if_true, if_false, reduceIte, Bool.false_eq_true, decide_true, decide_false, beq_self_eq_true, Bool.not_true, Bool.not_false, true_and, and_true, and_self, List.append_assoc, List.nil_append, List.cons_append, Int.toNat_natCast, ck, Int.cast_ofNat_Int, Int.reduceToNat, bne_self_eq_false, Bool.or_false, Bool.false_or, Bool.false_and, Bool.and_false, Bool.or_true, Bool.true_or]
  · replace h1 : ord b a = 0 := by omega
    replace h3 : fsame a b = true := h3
    have h4 := h4 (by omega)
    rcases Bool.eq_false_or_eq_true (decide (0 < ord b c)) with h6 | h6
    · simp (decide := true) only [ord_ev, same_ev, awake_ev, evUn_negI, h, h1, h2, h3, h6, w1, w2, w3, Try.f3, rid, ↓sBp, sBq, List.all_cons, List.all_nil, List.map_cons, List.map_nil, D.shape, Sh.sub, Sh.size, List.getElem?_cons_zero, List.getElem?_cons_succ, Option.bind_some, Option.bind_none, Option.getD_some, Option.getD_none, V.keysIn, V.kill, V.has, decide_eq_true_eq, beq_iff_eq, bne_iff_ne, ne_eq, Bool.not_eq_true', Bool.and_true, Bool.and_self, Bool.true_and, if_true, if_false, reduceIte, Bool.false_eq_true, decide_true, decide_false, beq_self_eq_true, Bool.not_true, Bool.not_false, true_and, and_true, and_self, List.append_assoc, List.nil_append, List.cons_append, Int.toNat_natCast, ck, Int.cast_ofNat_Int, Int.reduceToNat, bne_self_eq_false, Bool.or_false, Bool.false_or, Bool.false_and, Bool.and_false, Bool.or_true, Bool.true_or]
    · have h7 : decide (ord a c ≤ 0) = true := by rw [decide_eq_true_iff]; exact h4 (by rw [decide_eq_false_iff_not] at h6; omega)
      simp (decide := true) only [ord_ev, same_ev, awake_ev, evUn_negI, h, h1, h2, h3, h6, h7, w1, w2, w3, Try.f3, rid, ↓sBp, sBq, List.all_cons, List.all_nil, List.map_cons, List.map_nil, D.shape, Sh.sub, Sh.size, List.getElem?_cons_zero, List.getElem?_cons_succ, Option.bind_some, Option.bind_none, Option.getD_some, Option.getD_none, V.keysIn, V.kill, V.has, decide_eq_true_eq, beq_iff_eq, bne_iff_ne, ne_eq, Bool.not_eq_true', Bool.and_true, Bool.and_self, Bool.true_and, if_true, if_false, reduceIte, Bool.false_eq_true, decide_true, decide_false, beq_self_eq_true, Bool.not_true, Bool.not_false, true_and, and_true, and_self, List.append_assoc, List.nil_append, List.cons_append, Int.toNat_natCast, ck, Int.cast_ofNat_Int, Int.reduceToNat, bne_self_eq_false, Bool.or_false, Bool.false_or, Bool.false_and, Bool.and_false, Bool.or_true, Bool.true_or]
  · replace h3 : fsame a b = false := h3
    simp (decide := true) only [ord_ev, same_ev, awake_ev, evUn_negI, h, h1, h2, h3, w1, w2, w3, Try.f3, rid, ↓sBp, sBq, List.all_cons, List.all_nil, List.map_cons, List.map_nil, D.shape, Sh.sub, Sh.size, List.getElem?_cons_zero, List.getElem?_cons_succ, Option.bind_some, Option.bind_none, Option.getD_some, Option.getD_none, V.keysIn, V.kill, V.has, decide_eq_true_eq, beq_iff_eq, bne_iff_ne, ne_eq, Bool.not_eq_true', Bool.and_true, Bool.and_self, Bool.true_and, if_true, if_false, reduceIte, Bool.false_eq_true, decide_true, decide_false, beq_self_eq_true, Bool.not_true, Bool.not_false, true_and, and_true, and_self, List.append_assoc, List.nil_append, List.cons_append, Int.toNat_natCast, ck, Int.cast_ofNat_Int, Int.reduceToNat, bne_self_eq_false, Bool.or_false, Bool.false_or, Bool.false_and, Bool.and_false, Bool.or_true, Bool.true_or]

theorem nan_val (b : Nat) : nan b = (fval b).isNone := by
  unfold nan; rw [feq_val]; cases fval b <;> simp [oeq]
/-- The order, of what the words stand for. -/
def key (x y : Option Int) (s t : Bool) : Int :=
  match x, y with
  | none, none => 0
  | none, some _ => 1
  | some _, none => -1
  | some p, some q => if p < q then -1 else if q < p then 1 else if (s == t) = true then 0 else if s = true then -1 else 1
theorem ord_key (a b : Nat) : ord a b = key (fval a) (fval b) (sgn a) (sgn b) := by
  unfold ord key
  rw [nan_val, nan_val, flt_val, flt_val]
  cases fval a <;> cases fval b <;> simp [olt]
theorem fsame_key (a b : Nat) : fsame a b = (ord a b == 0) := by
  rw [ord_key]
  unfold fsame key
  rw [nan_val, nan_val, feq_val]
  cases fval a <;> cases fval b <;> simp only [oeq, Option.isNone] <;> try rfl
  rename_i p q
  by_cases h1 : p < q
  · have : ¬ p = q := by omega
    simp [h1, this]
  · by_cases h2 : q < p
    · have : ¬ p = q := by omega
      simp [h1, h2, this]
    · have : p = q := by omega
      cases sgn a <;> cases sgn b <;> simp [this]
theorem key_swap (x y : Option Int) (s t : Bool) : key y x t s = - key x y s t := by
  cases x <;> cases y <;> simp only [key] <;> try rfl
  rename_i p q
  by_cases h1 : p < q
  · have : ¬ q < p := by omega
    simp [h1, this]
  · by_cases h2 : q < p <;> cases s <;> cases t <;> simp [h1, h2]
theorem key_self (x : Option Int) (s : Bool) : key x x s s = 0 := by cases x <;> simp [key]
theorem key_one (x y : Option Int) (s t : Bool) : key x y s t = -1 ∨ key x y s t = 0 ∨ key x y s t = 1 := by
  cases x <;> cases y <;> simp only [key] <;> try decide
  repeat' split
  all_goals decide
theorem key_trans (x y z : Option Int) (s t u : Bool) (h1 : key x y s t ≤ 0) (h2 : key y z t u ≤ 0) : key x z s u ≤ 0 := by
  cases x <;> cases y <;> cases z <;> simp only [key] at * <;> try first | omega | (exact absurd h1 (by decide)) | (exact absurd h2 (by decide)) | decide
  rename_i p q r
  cases s <;> cases t <;> cases u <;> simp at * <;> repeat' (first | omega | split at * )
theorem of_f {x : D} (h : x.shape = cF) : ∃ b, x = dF b := by
  cases x with
  | s v =>
    have hk : ck v = .float .f64 := by simpa [D.shape] using h
    cases v with
    | float k b => simp only [ck, CK.float.injEq] at hk; subst hk; exact ⟨b, rfl⟩
    | _ => simp [ck] at hk
  | arr n sh f => cases h
  | nil => cases h
  | cons a b => cases h
theorem gaugeOrder_data (x0 : D) (w0 : x0.WF) (s0 : x0.shape = cF) (f0 : x0.fits) (x1 : D) (w1 : x1.WF) (s1 : x1.shape = cF) (f1 : x1.fits) (x2 : D) (w2 : x2.WF) (s2 : x2.shape = cF) (f2 : x2.fits) :
    evF Try.prog env xf (30) 3 [.d x0, .d x1, .d x2] = some (.d (.s (.bool (true)))) := by
  obtain ⟨a, rfl⟩ := of_f s0
  obtain ⟨b, rfl⟩ := of_f s1
  obtain ⟨c, rfl⟩ := of_f s2
  refine gaugeOrder_ev a b c ?_ ?_ (fsame_key a b) ?_ ?_
  · rw [ord_key, ord_key]; exact key_swap _ _ _ _
  · rw [ord_key]; exact key_self _ _
  · rw [ord_key, ord_key, ord_key]; exact key_trans _ _ _ _ _ _
  · rw [ord_key]; exact key_one _ _ _ _
open Go.ChangeShapes Go.WideShapes Go.ChangeAt Go.RowKit
set_option maxRecDepth 100000
theorem own : ownKnob Try.prog.godebug = none := by kernel_rfl
theorem laidOut : laidOutB Try.prog = true := by kernel_rfl
theorem lifted (os : Os) (started : os.Started) (H : Type) (enc : TypeId × Value → H) :
    ReturnsInHanded {} Try.checked os 3 .any (Rows.gaugeOrderSpec.pre6 enc Try.prog Try.f3 Rows.gaugeOrderRow.domain false) (Rows.gaugeOrderSpec.post enc Try.prog Try.f3 false true false false) := by
  refine returnsInHanded_of_change (C := Try.checked) own started (by kernel_rfl) Try.func3
    (ChangeSpec.witness6 (enc := enc) (C := Try.checked) false ⟨#[], #[Z22.val, Z22.val, Z22.val], []⟩ 8 (by kernel_rfl) (by kernel_rfl) (by kernel_rfl) (by kernel_rfl)) ?_
  intro W base args ds gs before hval0 hW hcnd _
  have hval : ∀ (j : Nat) t v, Try.f3.params[j]? = some t → args[j]? = some v → Value.okWide Try.prog W .any base t v := hval0
  have hW' := hW
  obtain ⟨p, q, hA0, hV, rfl, hfz, hnd⟩ := hW
  have hA : DataW.TrodAll enc Try.prog W 0 (fun _ => true) true Try.f3.params.toList args.toList ds p := hA0
  rw [Try.params3] at hA hval
  obtain ⟨v0, vs0, d0, ds0, p0, q0, hargs, rfl, rfl, h0, r0⟩ := trodAll_cons hA
  obtain ⟨v1, vs1, d1, ds1, p1, q1, rfl, rfl, rfl, h1, r1⟩ := trodAll_cons r0
  obtain ⟨v2, vs2, d2, ds2, p2, q2, rfl, rfl, rfl, h2, r2⟩ := trodAll_cons r1
  obtain ⟨rfl, rfl, rfl⟩ := trodAll_nil r2
  obtain rfl : args = #[v0, v1, v2] := by cases args; simp_all
  obtain ⟨rfl, rfl⟩ := trodVars_none hV
  have k0 := h0
  have lt0 : ∀ x ∈ p0, x.block < W.heap.size := by obtain ⟨m, hm⟩ := k0; exact DataW.trod_lt m _ _ _ hm
  have k1 := h1
  have lt1 : ∀ x ∈ p1, x.block < W.heap.size := by obtain ⟨m, hm⟩ := k1; exact DataW.trod_lt m _ _ _ hm
  have k2 := h2
  have lt2 : ∀ x ∈ p2, x.block < W.heap.size := by obtain ⟨m, hm⟩ := k2; exact DataW.trod_lt m _ _ _ hm
  obtain ⟨x0, rfl, w0, s0, f0⟩ := open_data (d := 8) (sh := cF) (by kernel_rfl) (hval 0 22 v0 rfl rfl) h0
  obtain ⟨x1, rfl, w1, s1, f1⟩ := open_data (d := 8) (sh := cF) (by kernel_rfl) (hval 1 22 v1 rfl rfl) h1
  obtain ⟨x2, rfl, w2, s2, f2⟩ := open_data (d := 8) (sh := cF) (by kernel_rfl) (hval 2 22 v2 rfl rfl) h2
  clear hA0 hval0
  refine ((xf_sound (k := 30) (gaugeOrder_data x0 w0 s0 f0 x1 w1 s1 f1 x2 w2 s2 f2) rfl).run W [x0.val, x1.val, x2.val] ⟨⟨w0, rfl⟩, ⟨w1, rfl⟩, ⟨w2, rfl⟩, trivial⟩).mono fun e W' ⟨u, he, bel0, hr⟩ => ?_
  have bel := bel0.toK
  obtain rfl : u = .bool true := hr.2
  subst he
  exact ⟨_, rfl, _, _, _, [], _, [], hW', trodAll_mk1 (shut_bool Try.underlying4 _), trodAll_cons_mk (Go.RowKit.Below.trod laidOut (by kernel_rfl) (of_decide_eq_true (by kernel_rfl)) k0 bel lt0) (trodAll_cons_mk (Go.RowKit.Below.trod laidOut (by kernel_rfl) (of_decide_eq_true (by kernel_rfl)) k1 bel lt1) (trodAll_cons_mk (Go.RowKit.Below.trod laidOut (by kernel_rfl) (of_decide_eq_true (by kernel_rfl)) k2 bel lt2) trodAll_mk0)), rfl, bel.frame _, fun h => by cases h⟩
theorem over : Rows.gaugeOrderRow.holds Try.pinned (OpenSpec.ofChange Rows.gaugeOrderSpec) :=
  OpenClaim.holds_of_wide 3 Try.f3 rfl rfl rfl rfl rfl rfl rfl ⟨rfl, rfl, rfl, rfl, rfl⟩ rfl rfl rfl rfl rfl (by kernel_rfl) Try.func3 (by kernel_rfl)
    (of_decide_eq_true (by kernel_rfl)) (by unfold Func.isWrapper; first | (rw [if_pos (by decide +kernel)]; kernel_rfl) | (rw [if_neg (by decide +kernel)]; exact ⟨rfl, rfl⟩))
    (fun os started H enc _ => lifted os started H enc)
theorem gaugeOrder_proved : Rows.GaugeOrderSaid := over
#print axioms gaugeOrder_proved
end Go.Proofs.Ytfmbchnejelpkaa.Ev
