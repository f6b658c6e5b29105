/- fingerpostref04.Sorted: what it computes. -/
import Derived.Test.YtfmbchnejelpkaaUi
import Derived.Test.YtfmbchnejelpkaaFacts
namespace Go.Proofs.Ytfmbchnejelpkaa.Ev
open Go
attribute [local congr] ob_congr sq_congr cd_congr ite_congr1 iter_congr it1_congr jumps_congr
set_option maxRecDepth 100000
set_option linter.unusedSimpArgs false
set_option linter.unusedVariables false
open Go.RowKit
theorem hcallK (K : Nat) : ∀ g l r, evF Try.prog env xf K g l = some r → ∀ w, CallX Try.prog w g l r := fun g l r h => (evF_soundX env_ok fns_ok xf_ok K g l r h).1
section
variable {w w' : World} {B : Nat} {sh : Sh} {es : List D} {u : Value}
theorem RO.rs (h : RO w B sh es u) : RS w w.heap.size sh es u := by
  obtain ⟨hg, e, ho⟩ := h
  refine ⟨hg, ?_⟩
  rcases ho.2 with ⟨h1, h2⟩ | ⟨g, cap, cur, q1, _, q3, qc, _, _, q4⟩
  · exact .inl ⟨List.eq_nil_of_length_eq_zero h2, h1⟩
  · exact .inr ⟨g, 0, cap, cur, e, (0, 0), lt_of_heap q3, qc, q1, q3, fun j v hj => by
      rw [← q4, List.getElem?_take] at hj
      split at hj
      · simpa using hj
      · cases hj⟩
theorem RO.one (h : RO w B sh es u) : u.oneCell' = true := by
  obtain ⟨hg, e, ho⟩ := h
  rcases ho.2 with ⟨rfl, _⟩ | ⟨g, cap, cur, rfl, _⟩ <;> rfl
theorem RO.lo {B' : Nat} (h : RO w B' sh es u) (hB : B ≤ B') : RO w B sh es u := by
  obtain ⟨hg, e, ho, h2⟩ := h
  refine ⟨hg, e, ho, ?_⟩
  rcases h2 with h2 | ⟨g, cap, cur, q1, q2, q3⟩
  · exact .inl h2
  · exact .inr ⟨g, cap, cur, q1, Nat.le_trans hB q2, q3⟩
theorem RO.below (h : RO w B sh es u) (hb : Below w.heap.size w w') : RO w' B sh es u := by
  obtain ⟨hg, e, ho⟩ := h
  exact ⟨hg, e, ownsRow_same ho fun g hg => hb.block g (ownsRow_lt ho hg).2⟩
end
/-- A state in which all is only read, and beside it a row of one's own. -/
structure WR (W : World) (es : List D) (u : Value) (n : Nat) (s : St) (a : Act) (w : World) : Prop where
  rel : Rel w.heap.size w (fun _ => none) s a w (fun _ => none)
  row : RO w W.heap.size cF es u
  size : a.tmps.size = n
  bel : Below W.heap.size W w
section
variable {W w : World} {es : List D} {u : Value} {n : Nat} {s s' s'' : St} {a : Act}
theorem WR.slot (h : WR W es u n s a w) {i : Nat} {x : D} (hi : s.t i = .d x) : a.eval (.tmp i) = x.val := by
  have := h.rel.tm i
  rw [hi] at this
  exact this.2
theorem WR.piece (h : WR W es u n s a w) {K fn : Nat} {c : Code} {b : List Nat × List Nat} (hok : okCode Try.prog (env.dp fn) n c = true) (hev : fgt b (evC env (evF Try.prog env xf K) fn loopFuel c s) = some (.normal, s'))
    (he : s'.anew b.1 = s'') {Q : Exit → Act → World → Prop} (hQ : ∀ a' w', WR W es u n s'' a' w' → Q .normal a' w') : c.wp Try.prog Q a w := by
  refine pieceR env_ok (hcallK K) hok hev h.rel h.size fun a' w' φ' r' hn' => hQ a' w' ⟨he ▸ r'.rebase b.1, h.row.below r'.bel, hn', h.bel.trans (r'.bel.mono h.bel.size)⟩
/-- A piece that makes the row anew. -/
theorem WR.piece2 {i : Nat} (h : WR W es u n s a w) {s1 : St} {es' : List D} {S : Value → St} (hs1 : ∀ j, j ≠ i → s1.t j = s.t j) (hi1 : s1.t i = .sl .ro cF es) (hm1 : s1.m = s.m) (hi : s.t i = .d (.s u)) {K fn : Nat} {c : Code} {b : List Nat × List Nat} (hok : okCode Try.prog (env.dp fn) n c = true)
    (hev : fgt b (evC env (evF Try.prog env xf K) fn loopFuel c s1) = some (.normal, s')) {k : Nat} (hi' : s'.t i = .sl (.tg k) cF es')
    (he : ∀ u', (∀ j, j ≠ i → (S u').t j = (s'.anew b.1).t j) ∧ (S u').t i = .d (.s u') ∧ (S u').m = (s'.anew b.1).m) {Q : Exit → Act → World → Prop} (hQ : ∀ u' a' w', WR W es' u' n (S u') a' w' → Q .normal a' w') : c.wp Try.prog Q a w := by
  have hu : a.tmps.getD i undef = u := by
    have := h.rel.tm i
    rw [hi] at this
    exact this.2
  have r1 : Rel w.heap.size w (fun _ => none) s1 a w (fun _ => none) := h.rel.see (i := i) (v := .sl .ro cF es) (by rw [hu]; exact h.row.rs) hs1 hi1 hm1
  refine pieceR env_ok (hcallK K) hok hev r1 h.size fun a' w' φ' r' hn' => ?_
  have q := r'.tm i
  rw [hi'] at q
  obtain ⟨_, q2, _⟩ := q
  obtain ⟨e1, e2, e3⟩ := he (a'.tmps.getD i undef)
  exact hQ (a'.tmps.getD i undef) a' w' ⟨(r'.rebase b.1).see (i := i) (v := .d (.s (a'.tmps.getD i undef))) ⟨q2.one, rfl⟩ e1 e2 e3, q2.lo h.bel.size, hn', h.bel.trans (r'.bel.mono h.bel.size)⟩
end
theorem rep1 {α : Type} (z x : α) : (List.replicate 1 z).set 0 x = [x] := rfl
noncomputable def roundS : Code := match Try.f16.body with
  | some (.seq _ (.seq _ (.seq (.seq _ (.block _ (.loop c))) _))) => c
  | _ => .skip
section
variable (l : List Nat)
abbrev S0 (i : Nat) (u : Value) : St := ⟨tab .junk [(3, .d (.s u)), (8, .sl .ro cF (fl l)), (9, .d (.s (.int .i64 (l.length)))), (10, .d (.s (.int .i64 (i))))], tab none []⟩
abbrev S1 (i : Nat) (u : Value) (b : Bool) : St := ⟨tab .junk [(3, .d (.s u)), (8, .sl .ro cF (fl l)), (9, .d (.s (.int .i64 (l.length)))), (10, .d (.s (.int .i64 (i)))), (11, .d (.s (.bool (b))))], tab none []⟩
abbrev S6 (i : Nat) (es : List D) : St := ⟨tab .junk [(3, .sl .ro cF es), (8, .sl .ro cF (fl l)), (9, .d (.s (.int .i64 (l.length)))), (10, .d (.s (.int .i64 (i))))], tab none []⟩
abbrev S7 (i : Nat) (es : List D) : St := ⟨tab .junk [(3, .sl (.tg 30) cF es), (8, .sl .ro cF (fl l)), (9, .d (.s (.int .i64 (l.length)))), (10, .d (.s (.int .i64 (i))))], tab none [(30, some .row)]⟩
set_option maxHeartbeats 4000000 in
theorem insS_ev (K i : Nat) (hi : i < l.length) (hl : l.length ≤ 60) (L : List Nat) (hL : L.length ≤ 60) :
    fgt ([3, 8, 9, 10], [30]) (evC env (evF Try.prog env xf (K + 3)) 16 loopFuel roundS (S6 l i (fl L))) = some (.normal, S7 l (i + 1) (fl (insS (l.getD i 0) L))) := by
  have hi1 : (i : Int) < (l.length : Int) := by omega
  have hi0 := i0 i
  have hiw := wrap_succ i (by omega)
  have hget : ∀ (l : List Nat) q, q < l.length → (fl l)[q]? = some (dF (l.getD q 0)) := fun l q hq => by
    simp [fl, List.getD, List.getElem?_eq_getElem hq]
  have g := hget l i hi
  have hlL : (fl L).length = L.length := List.length_map ..
  show fgt _ (evC env (evF Try.prog env xf (K + 3)) 16 loopFuel (match Try.f16.body with | some (.seq _ (.seq _ (.seq (.seq _ (.block _ (.loop c))) _))) => c | _ => .skip) (S6 l i (fl L))) = _
  have hle := atS_le (l.getD i 0) L L.length
  have hup := atS_up (l.getD i 0) L L.length
  have hat := atS_at (l.getD i 0) L L.length
  have hws : fl (insS (l.getD i 0) L) = (fl L).take (atS (l.getD i 0) L L.length) ++ dF (l.getD i 0) :: (fl L).drop (atS (l.getD i 0) L L.length) := by
    unfold insS fl
    rw [List.map_append, List.map_cons, List.map_take, List.map_drop]
  rw [hws]
  generalize atS (l.getD i 0) L L.length = m at hle hup hat
  simp (decide := true) only [hi1, hi0, g, hlL, Try.f16, rid, kl16_3, kl16_6, ↓sBp, sBq, List.all_cons, List.all_nil, List.map_cons, List.map_nil, D.shape, Sh.sub, Sh.size, List.getElem?_cons_zero, List.getElem?_cons_succ, Option.bind_some, Option.bind_none, Option.getD_some, Option.getD_none, V.keysIn, V.kill, V.has, decide_eq_true_eq, beq_iff_eq, bne_iff_ne, ne_eq, Bool.not_eq_true', Bool.and_true, Bool.and_self, Bool.true_and, if_true, if_false, reduceIte, Bool.false_eq_true, decide_true, decide_false, beq_self_eq_true, Bool.not_true, Bool.not_false, true_and, and_true, and_self, List.append_assoc, List.nil_append, List.cons_append, Int.toNat_natCast, ck, Int.cast_ofNat_Int, Int.reduceToNat, bne_self_eq_false, Bool.or_false, Bool.false_or, Bool.false_and, Bool.and_false, Bool.or_true, Bool.true_or]
  rw [iter_run (S := fun q => ⟨tab .junk [(3, .sl .ro cF (fl L)), (5, .d (dF (l.getD i 0))), (6, .d (.s (.int .i64 ((L.length - q : Nat))))), (8, .sl .ro cF (fl l)), (9, .d (.s (.int .i64 (l.length)))), (10, .d (.s (.int .i64 (i))))], tab none [(3, none), (30, none), (34, none), (38, none), (43, none)]⟩) (n := (L.length - m)) (h0 := ?h0) (hn := ?hn) (step := ?step)]
  case h0 => rfl
  case hn => exact lt_loopFuel (by omega)
  case step =>
    intro q hq
    have a1 : (0 : Int) < ((L.length - q : Nat) : Int) := by omega
    have a2 : IntKind.i64.wrap (((L.length - q : Nat) : Int) - 1) = ((L.length - q - 1 : Nat) : Int) := by rw [IntWalk.i64_in _ (by omega)]; omega
    have a3 := i0 (L.length - q - 1)
    have a4 := hget L (L.length - q - 1) (by omega)
    have a5 : decide (ord (l.getD i 0) (L.getD (L.length - q - 1) 0) < 0) = true := by rw [decide_eq_true_iff]; exact hup (L.length - q - 1) (by omega) (by omega)
    have a6 : L.length - (q + 1) = L.length - q - 1 := by omega
    simp (decide := true) only [rord_ev, a1, a2, a3, a4, a5, a6, Try.f16, rid, kl16_3, kl16_6, ↓sBp, sBq, List.all_cons, List.all_nil, List.map_cons, List.map_nil, D.shape, Sh.sub, Sh.size, List.getElem?_cons_zero, List.getElem?_cons_succ, Option.bind_some, Option.bind_none, Option.getD_some, Option.getD_none, V.keysIn, V.kill, V.has, decide_eq_true_eq, beq_iff_eq, bne_iff_ne, ne_eq, Bool.not_eq_true', Bool.and_true, Bool.and_self, Bool.true_and, if_true, if_false, reduceIte, Bool.false_eq_true, decide_true, decide_false, beq_self_eq_true, Bool.not_true, Bool.not_false, true_and, and_true, and_self, List.append_assoc, List.nil_append, List.cons_append, Int.toNat_natCast, ck, Int.cast_ofNat_Int, Int.reduceToNat, bne_self_eq_false, Bool.or_false, Bool.false_or, Bool.false_and, Bool.and_false, Bool.or_true, Bool.true_or]
  have e0 : L.length - (L.length - m) = m := by omega
  by_cases hz : m = 0
  · subst hz
    simp (decide := true) only [e0, hiw, Try.f16, rid, kl16_3, kl16_6, ↓sBp, sBq, List.all_cons, List.all_nil, List.map_cons, List.map_nil, D.shape, Sh.sub, Sh.size, List.getElem?_cons_zero, List.getElem?_cons_succ, Option.bind_some, Option.bind_none, Option.getD_some, Option.getD_none, V.keysIn, V.kill, V.has, decide_eq_true_eq, beq_iff_eq, bne_iff_ne, ne_eq, Bool.not_eq_true', Bool.and_true, Bool.and_self, Bool.true_and, if_true, if_false, reduceIte, Bool.false_eq_true, decide_true, decide_false, beq_self_eq_true, Bool.not_true, Bool.not_false, true_and, and_true, and_self, List.append_assoc, List.nil_append, List.cons_append, Int.toNat_natCast, ck, Int.cast_ofNat_Int, Int.reduceToNat, bne_self_eq_false, Bool.or_false, Bool.false_or, Bool.false_and, Bool.and_false, Bool.or_true, Bool.true_or]
    simp only [List.replicate_zero, List.nil_append, List.drop_zero, List.take_length, rep1]
    rw [if_pos (by omega), if_pos (of_eq_true (app_ok2 _ _ 8 (by omega) (by simp only [List.length_nil, List.length_take]; omega))), if_pos (of_eq_true (app_ok2 _ _ 8 (by omega) (by simp only [List.length_singleton, List.length_take]; omega))),
      if_pos (by omega), if_pos (of_eq_true (app_ok2 _ _ 8 (by omega) (by simp only [List.length_singleton, List.length_append, List.length_drop, List.length_take]; omega)))]
    rfl
  · have b1 : (0 : Int) < (m : Int) := by omega
    have b2 : IntKind.i64.wrap ((m : Int) - 1) = ((m - 1 : Nat) : Int) := by rw [IntWalk.i64_in _ (by omega)]; omega
    have b3 := i0 (m - 1)
    have b4 := hget L (m - 1) (by omega)
    have b5 : decide (ord (l.getD i 0) (L.getD (m - 1) 0) < 0) = false := by rw [decide_eq_false_iff_not]; exact hat (by omega)
    simp (decide := true) only [rord_ev, e0, b1, b2, b3, b4, b5, hiw, Try.f16, rid, kl16_3, kl16_6, ↓sBp, sBq, List.all_cons, List.all_nil, List.map_cons, List.map_nil, D.shape, Sh.sub, Sh.size, List.getElem?_cons_zero, List.getElem?_cons_succ, Option.bind_some, Option.bind_none, Option.getD_some, Option.getD_none, V.keysIn, V.kill, V.has, decide_eq_true_eq, beq_iff_eq, bne_iff_ne, ne_eq, Bool.not_eq_true', Bool.and_true, Bool.and_self, Bool.true_and, if_true, if_false, reduceIte, Bool.false_eq_true, decide_true, decide_false, beq_self_eq_true, Bool.not_true, Bool.not_false, true_and, and_true, and_self, List.append_assoc, List.nil_append, List.cons_append, Int.toNat_natCast, ck, Int.cast_ofNat_Int, Int.reduceToNat, bne_self_eq_false, Bool.or_false, Bool.false_or, Bool.false_and, Bool.and_false, Bool.or_true, Bool.true_or]
    simp only [List.replicate_zero, List.nil_append, List.drop_zero, List.take_length, rep1]
    rw [if_pos (by omega), if_pos (of_eq_true (app_ok2 _ _ 8 (by omega) (by simp only [List.length_nil, List.length_take]; omega))), if_pos (of_eq_true (app_ok2 _ _ 8 (by omega) (by simp only [List.length_singleton, List.length_take]; omega))),
      if_pos (by omega), if_pos (of_eq_true (app_ok2 _ _ 8 (by omega) (by simp only [List.length_singleton, List.length_append, List.length_drop, List.length_take]; omega)))]
    rfl
theorem insS_len (x : Nat) (L : List Nat) : (insS x L).length = L.length + 1 := (insS_perm x L).length_eq
theorem round_s {i : Nat} (hi : i < l.length) (hl : l.length ≤ 60) {W w : World} {u : Value} {Q : Exit → Act → World → Prop} {a : Act} (h : WR W (fl (rS l i)) u 46 (S0 l i u) a w)
    (hQ : ∀ u' a' w', WR W (fl (rS l (i + 1))) u' 46 (S0 l (i + 1) u') a' w' → Q .normal a' w') : roundS.wp Try.prog Q a w := by
  refine h.piece2 (i := 3) (s1 := S6 l i (fl (rS l i))) (b := ([3, 8, 9, 10], [30])) (s' := S7 l (i + 1) (fl (insS (l.getD i 0) (rS l i)))) (S := S0 l (i + 1)) (k := 30) (K := 3) (fn := 16) (fun q hq => ?_) rfl rfl rfl (by kernel_rfl) (insS_ev l 0 i hi hl _ (by rw [rS_len l (by omega)]; omega)) rfl (fun u' => ⟨fun q hq => ?_, rfl, rfl⟩) (fun u' a w h => hQ u' a w h)
  · simp only [tab, if_neg hq]
  · show tab V.junk _ q = tab V.junk _ q
    simp only [tab, if_neg hq, List.map_cons, List.map_nil]
    rfl
theorem rounds_s (hl : l.length ≤ 60) {W : World} {Q : Exit → Act → World → Prop} (hQ : ∀ u a w, WR W (fl (rS l l.length)) u 46 (S1 l l.length u false) a w → Q (.exit 0) a w) :
    ∀ (m i : Nat), i + m = l.length → ∀ u a w, WR W (fl (rS l i)) u 46 (S0 l i u) a w → Code.rounds Try.prog roundS Q (m + 1) a w
  | 0, i, hi, u, a, w, h => by
    obtain rfl : i = l.length := by omega
    rw [rounds_succ]
    refine wp_seq ?_
    refine h.piece (b := ([3, 8, 9, 10, 11], [])) (s' := S1 l l.length u false) (s'' := S1 l l.length u false) (K := 3) (fn := 16) (by kernel_rfl) ?e1 rfl (fun a w h => ?_)
    case e1 => simp (decide := true) only [Int.lt_irrefl, Try.f16, rid, kl16_3, kl16_6, ↓sBp, sBq, List.all_cons, List.all_nil, List.map_cons, List.map_nil, D.shape, Sh.sub, Sh.size, List.getElem?_cons_zero, List.getElem?_cons_succ, Option.bind_some, Option.bind_none, Option.getD_some, Option.getD_none, V.keysIn, V.kill, V.has, decide_eq_true_eq, beq_iff_eq, bne_iff_ne, ne_eq, Bool.not_eq_true', Bool.and_true, Bool.and_self, Bool.true_and, if_true, if_false, reduceIte, Bool.false_eq_true, decide_true, decide_false, beq_self_eq_true, Bool.not_true, Bool.not_false, true_and, and_true, and_self, List.append_assoc, List.nil_append, List.cons_append, Int.toNat_natCast, ck, Int.cast_ofNat_Int, Int.reduceToNat, bne_self_eq_false, Bool.or_false, Bool.false_or, Bool.false_and, Bool.and_false, Bool.or_true, Bool.true_or]
    refine wp_seq ?_
    exact wp_cond_false (h.slot (i := 11) rfl) (wp_exit (hQ u a w h))
  | m + 1, i, hi, u, a, w, h => by
    rw [rounds_succ]
    exact round_s l (by omega) hl h fun u a w h => rounds_s hl hQ m (i + 1) (by omega) u a w h
theorem rsortFn : ∃ fn, Try.prog.funcs[16]? = some fn ∧ fn.body.isNone = false ∧ (fn.name == "runtime.NumGoroutine") = false := ⟨Try.f16, Try.func16, by kernel_rfl, by kernel_rfl⟩
theorem res2 {f : Func} (hf : f.results = #[.tmp 2]) {a : Act} {u : Value} (h4 : a.eval (.tmp 2) = u) (w : World) : (results f a.tmps).run Try.prog w = .ok u w := by
  have e8 : a.tmps.getD 2 undef = u := h4
  unfold results
  rw [hf]
  simp only [List.mapM_toArray, Array.mapM_eq_mapM_toList]
  simp only [List.mapM_cons, List.mapM_nil, Sem.run_bind, Sem.run_pure, Result.andThen_ok, Sem.run_map]
  simpa using e8
theorem rsort_ok (hl : l.length ≤ 60) : CallOK Try.prog 16 [.sl .ro cF (fl l)] (.sl .ro cF (fl (rS l l.length))) := by
  refine ⟨rsortFn, fun W vs hra => ?_⟩
  have hv := (RA_at hra).1
  have hlL : (fl l).length = l.length := List.length_map ..
  refine calls_of_wp Try.func16 rfl ?_
  have r0 := enter_rel hra 46
  have hn0 : ({ tmps := vs.toArray ++ Array.replicate (46 - vs.toArray.size) undef, defers := [] } : Act).tmps.size = 46 := by simp at hv ⊢; omega
  refine wp_seq ?_
  refine pieceR (b := ([0], [])) (s' := ⟨tab .junk [(0, .sl .ro cF (fl l))], tab none []⟩) (fn := 16) (lf := loopFuel) env_ok (hcallK 3) (by kernel_rfl) ?e1 r0 hn0 (fun a w φ r hn => ?_)
  case e1 => simp (decide := true) only [Try.f16, rid, kl16_3, kl16_6, ↓sBp, sBq, List.all_cons, List.all_nil, List.map_cons, List.map_nil, D.shape, Sh.sub, Sh.size, List.getElem?_cons_zero, List.getElem?_cons_succ, Option.bind_some, Option.bind_none, Option.getD_some, Option.getD_none, V.keysIn, V.kill, V.has, decide_eq_true_eq, beq_iff_eq, bne_iff_ne, ne_eq, Bool.not_eq_true', Bool.and_true, Bool.and_self, Bool.true_and, if_true, if_false, reduceIte, Bool.false_eq_true, decide_true, decide_false, beq_self_eq_true, Bool.not_true, Bool.not_false, true_and, and_true, and_self, List.append_assoc, List.nil_append, List.cons_append, Int.toNat_natCast, ck, Int.cast_ofNat_Int, Int.reduceToNat, bne_self_eq_false, Bool.or_false, Bool.false_or, Bool.false_and, Bool.and_false, Bool.or_true, Bool.true_or]
  refine wp_seq ?_
  refine pieceR (b := ([0, 3], [3])) (s' := ⟨tab .junk [(0, .sl .ro cF (fl l)), (3, .sl (.tg 3) cF [])], tab none [(3, some .row)]⟩) (fn := 16) (lf := loopFuel) env_ok (hcallK 3) (by kernel_rfl) ?e2 r hn (fun a w φ r hn => ?_)
  case e2 => simp (decide := true) only [Try.f16, rid, kl16_3, kl16_6, ↓sBp, sBq, List.all_cons, List.all_nil, List.map_cons, List.map_nil, D.shape, Sh.sub, Sh.size, List.getElem?_cons_zero, List.getElem?_cons_succ, Option.bind_some, Option.bind_none, Option.getD_some, Option.getD_none, V.keysIn, V.kill, V.has, decide_eq_true_eq, beq_iff_eq, bne_iff_ne, ne_eq, Bool.not_eq_true', Bool.and_true, Bool.and_self, Bool.true_and, if_true, if_false, reduceIte, Bool.false_eq_true, decide_true, decide_false, beq_self_eq_true, Bool.not_true, Bool.not_false, true_and, and_true, and_self, List.append_assoc, List.nil_append, List.cons_append, Int.toNat_natCast, ck, Int.cast_ofNat_Int, Int.reduceToNat, bne_self_eq_false, Bool.or_false, Bool.false_or, Bool.false_and, Bool.and_false, Bool.or_true, Bool.true_or]
  refine wp_seq ?_
  refine wp_seq ?_
  refine pieceR (b := ([3, 8, 9, 10], [3])) (s' := ⟨tab .junk [(3, .sl (.tg 3) cF []), (8, .sl .ro cF (fl l)), (9, .d (.s (.int .i64 (l.length)))), (10, .d (.s (.int .i64 ((0 : Nat)))))], tab none [(3, some .row)]⟩) (fn := 16) (lf := loopFuel) env_ok (hcallK 3) (by kernel_rfl) ?e3 r hn (fun a w φ r hn => ?_)
  case e3 => simp (decide := true) only [hlL, Try.f16, rid, kl16_3, kl16_6, ↓sBp, sBq, List.all_cons, List.all_nil, List.map_cons, List.map_nil, D.shape, Sh.sub, Sh.size, List.getElem?_cons_zero, List.getElem?_cons_succ, Option.bind_some, Option.bind_none, Option.getD_some, Option.getD_none, V.keysIn, V.kill, V.has, decide_eq_true_eq, beq_iff_eq, bne_iff_ne, ne_eq, Bool.not_eq_true', Bool.and_true, Bool.and_self, Bool.true_and, if_true, if_false, reduceIte, Bool.false_eq_true, decide_true, decide_false, beq_self_eq_true, Bool.not_true, Bool.not_false, true_and, and_true, and_self, List.append_assoc, List.nil_append, List.cons_append, Int.toNat_natCast, ck, Int.cast_ofNat_Int, Int.reduceToNat, bne_self_eq_false, Bool.or_false, Bool.false_or, Bool.false_and, Bool.and_false, Bool.or_true, Bool.true_or]
  have r5 := (r.tm 3).2.1
  have start : WR W (fl (rS l 0)) (a.tmps.getD 3 undef) 46 (S0 l 0 (a.tmps.getD 3 undef)) a w := by
    refine ⟨(r.rebase [3, 8, 9, 10]).see (i := 3) (v := .d (.s (a.tmps.getD 3 undef))) ⟨r5.one, rfl⟩ (fun q hq => ?_) rfl rfl, r5, hn, r.bel⟩
    show tab V.junk _ q = tab V.junk _ q
    simp only [tab, if_neg hq, List.map_cons, List.map_nil]
    rfl
  refine wp_block (wp_loop_rounds (l.length + 1) (rounds_s l hl (W := W) (fun u a w h => ?_) l.length 0 (by omega) _ a w start))
  refine wp_seq ?_
  refine h.piece (b := ([2], [])) (s' := ⟨tab .junk [(2, .d (.s u))], tab none []⟩) (s'' := ⟨tab .junk [(2, .d (.s u))], tab none []⟩) (K := 3) (fn := 16) (by kernel_rfl) ?e6 rfl (fun a w h => ?_)
  case e6 => simp (decide := true) only [Try.f16, rid, kl16_3, kl16_6, ↓sBp, sBq, List.all_cons, List.all_nil, List.map_cons, List.map_nil, D.shape, Sh.sub, Sh.size, List.getElem?_cons_zero, List.getElem?_cons_succ, Option.bind_some, Option.bind_none, Option.getD_some, Option.getD_none, V.keysIn, V.kill, V.has, decide_eq_true_eq, beq_iff_eq, bne_iff_ne, ne_eq, Bool.not_eq_true', Bool.and_true, Bool.and_self, Bool.true_and, if_true, if_false, reduceIte, Bool.false_eq_true, decide_true, decide_false, beq_self_eq_true, Bool.not_true, Bool.not_false, true_and, and_true, and_self, List.append_assoc, List.nil_append, List.cons_append, Int.toNat_natCast, ck, Int.cast_ofNat_Int, Int.reduceToNat, bne_self_eq_false, Bool.or_false, Bool.false_or, Bool.false_and, Bool.and_false, Bool.or_true, Bool.true_or]
  refine wp_ret ?_
  exact ⟨h.rel.dfr, u, res2 rfl (h.slot (i := 2) rfl) w, u, rfl, h.bel, h.row⟩
end
end Go.Proofs.Ytfmbchnejelpkaa.Ev
