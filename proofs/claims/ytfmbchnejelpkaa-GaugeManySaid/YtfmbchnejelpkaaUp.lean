/- Bins: what both answer. -/
import Derived.Test.YtfmbchnejelpkaaUo
namespace Go.Proofs.Ytfmbchnejelpkaa.Ev
open Go
attribute [local congr] ob_congr sq_congr cd_congr ite_congr1 iter_congr it1_congr jumps_congr
set_option maxRecDepth 100000
set_option linter.unusedSimpArgs false
set_option linter.unusedVariables false
open Go.RowKit
def okAll (ed : List Nat) : Bool := (List.range ed.length).all (okB ed)
def bins (ed l : List Nat) : List D := if okAll ed = true then ci (cn ed l l.length) (ed.length + 1) else []
theorem bins_ok {ed l : List Nat} (h : ∀ q, q < ed.length → okB ed q = true) : bins ed l = ci (cn ed l l.length) (ed.length + 1) := by
  unfold bins; rw [if_pos]; unfold okAll; rw [List.all_eq_true]; exact fun q hq => h q (List.mem_range.1 hq)
theorem bins_bad {ed l : List Nat} {n : Nat} (hn : n < ed.length) (h : okB ed n = false) : bins ed l = [] := by
  unfold bins; rw [if_neg]; unfold okAll; rw [List.all_eq_true]; exact fun q => by have := q n (List.mem_range.2 hn); rw [h] at this; cases this
theorem res4 {f : Func} (hf : f.results = #[.tmp 4]) {a : Act} {u : Value} (h4 : a.eval (.tmp 4) = u) (w : World) : (results f a.tmps).run Try.prog w = .ok u w := by
  have e8 : a.tmps.getD 4 undef = u := h4
  unfold results
  rw [hf]
  simp only [List.mapM_toArray, Array.mapM_eq_mapM_toList]
  simp only [List.mapM_cons, List.mapM_nil, Sem.run_bind, Sem.run_pure, Result.andThen_ok, Sem.run_map]
  simpa using e8
section
variable (ed l : List Nat)
theorem binsgFn : ∃ fn, Try.prog.funcs[21]? = some fn ∧ fn.body.isNone = false ∧ (fn.name == "runtime.NumGoroutine") = false := ⟨Try.f21, Try.func21, by kernel_rfl, by kernel_rfl⟩
noncomputable def edgesg : Code := match Try.f21.body with
  | some (.seq _ (.seq c _)) => c
  | _ => .skip
noncomputable def bodyg : Code := match Try.f21.body with
  | some c => c
  | _ => .skip
theorem edgesg_ev (K : Nat) (hE : ed.length ≤ 60) (ok : ∀ q, q < ed.length → okB ed q = true) :
    fgt ([0, 1], []) (evC env (evF Try.prog env xf (K + 3)) 21 loopFuel edgesg ⟨tab .junk [(0, .sl .ro cF (fl l)), (1, .sl .ro cF (fl ed))], tab none []⟩) = some (.normal, ⟨tab .junk [(0, .sl .ro cF (fl l)), (1, .sl .ro cF (fl ed))], tab none []⟩) := by
  have hlE := fl_len ed
  show fgt _ (evC env (evF Try.prog env xf (K + 3)) 21 loopFuel (match Try.f21.body with | some (.seq _ (.seq c _)) => c | _ => .skip) _) = _
  simp (decide := true) only [hlE, Try.f21, rid, kl21_2, kl21_9, kl21_13, ↓sBp, sBq, List.all_cons, List.all_nil, List.map_cons, List.map_nil, D.shape, Sh.sub, Sh.size, List.getElem?_cons_zero, List.getElem?_cons_succ, Option.bind_some, Option.bind_none, Option.getD_some, Option.getD_none, V.keysIn, V.kill, V.has, decide_eq_true_eq, beq_iff_eq, bne_iff_ne, ne_eq, Bool.not_eq_true', Bool.and_true, Bool.and_self, Bool.true_and, if_true, if_false, reduceIte, Bool.false_eq_true, decide_true, decide_false, beq_self_eq_true, Bool.not_true, Bool.not_false, true_and, and_true, and_self, List.append_assoc, List.nil_append, List.cons_append, Int.toNat_natCast, ck, Int.cast_ofNat_Int, Int.reduceToNat, bne_self_eq_false, Bool.or_false, Bool.false_or, Bool.false_and, Bool.and_false, Bool.or_true, Bool.true_or]
  rw [iter_run (S := fun k => ⟨tab .junk [(0, .sl .ro cF (fl l)), (1, .sl .ro cF (fl ed)), (13, .sl .ro cF (fl ed)), (14, .d (.s (.int .i64 (ed.length)))), (15, .d (.s (.int .i64 (k))))], tab none []⟩) (n := ed.length) (h0 := ?h0) (hn := ?hn) (step := ?step)]
  case hn => exact lt_loopFuel (by omega)
  case h0 => rfl
  case step =>
    intro k hk
    have g1 : (k : Int) < (ed.length : Int) := by omega
    have n0 := i0 k
    have hw := wrap_succ k (by omega)
    have hg := fl_get ed k hk
    have hok := ok k hk
    cases k with
    | zero =>
      rw [okB_zero] at hok
      have hn : nan (ed.getD 0 0) = false := by simpa using hok
      have hw0 : IntKind.i64.wrap ((0 : Int) + 1) = 1 := rfl
      have e0 : ((0 : Nat) : Int) = 0 := rfl
      have e1 : ((0 + 1 : Nat) : Int) = 1 := rfl
      rw [e0] at g1
      simp (decide := true) only [e0, e1, g1, hg, hw0, isnan_ev, hn, Try.f21, rid, kl21_2, kl21_9, kl21_13, ↓sBp, sBq, List.all_cons, List.all_nil, List.map_cons, List.map_nil, D.shape, Sh.sub, Sh.size, List.getElem?_cons_zero, List.getElem?_cons_succ, Option.bind_some, Option.bind_none, Option.getD_some, Option.getD_none, V.keysIn, V.kill, V.has, decide_eq_true_eq, beq_iff_eq, bne_iff_ne, ne_eq, Bool.not_eq_true', Bool.and_true, Bool.and_self, Bool.true_and, if_true, if_false, reduceIte, Bool.false_eq_true, decide_true, decide_false, beq_self_eq_true, Bool.not_true, Bool.not_false, true_and, and_true, and_self, List.append_assoc, List.nil_append, List.cons_append, Int.toNat_natCast, ck, Int.cast_ofNat_Int, Int.reduceToNat, bne_self_eq_false, Bool.or_false, Bool.false_or, Bool.false_and, Bool.and_false, Bool.or_true, Bool.true_or]
    | succ k =>
      rw [okB_succ, Bool.and_eq_true] at hok
      have hn : nan (ed.getD (k + 1) 0) = false := by simpa using hok.1
      have hf := hok.2
      have m0 := i0 k
      have hgt : (0 : Int) < ((k + 1 : Nat) : Int) := by omega
      have hw1 : IntKind.i64.wrap (((k + 1 : Nat) : Int) - 1) = (k : Int) := by rw [IntWalk.i64_in _ (by omega)]; omega
      have hg1 := fl_get ed k (by omega)
      simp (decide := true) only [g1, n0, hg, hw, isnan_ev, hn, hf, m0, hgt, hw1, hg1, Try.f21, rid, kl21_2, kl21_9, kl21_13, ↓sBp, sBq, List.all_cons, List.all_nil, List.map_cons, List.map_nil, D.shape, Sh.sub, Sh.size, List.getElem?_cons_zero, List.getElem?_cons_succ, Option.bind_some, Option.bind_none, Option.getD_some, Option.getD_none, V.keysIn, V.kill, V.has, decide_eq_true_eq, beq_iff_eq, bne_iff_ne, ne_eq, Bool.not_eq_true', Bool.and_true, Bool.and_self, Bool.true_and, if_true, if_false, reduceIte, Bool.false_eq_true, decide_true, decide_false, beq_self_eq_true, Bool.not_true, Bool.not_false, true_and, and_true, and_self, List.append_assoc, List.nil_append, List.cons_append, Int.toNat_natCast, ck, Int.cast_ofNat_Int, Int.reduceToNat, bne_self_eq_false, Bool.or_false, Bool.false_or, Bool.false_and, Bool.and_false, Bool.or_true, Bool.true_or]
  simp (decide := true) only [Int.lt_irrefl, Try.f21, rid, kl21_2, kl21_9, kl21_13, ↓sBp, sBq, List.all_cons, List.all_nil, List.map_cons, List.map_nil, D.shape, Sh.sub, Sh.size, List.getElem?_cons_zero, List.getElem?_cons_succ, Option.bind_some, Option.bind_none, Option.getD_some, Option.getD_none, V.keysIn, V.kill, V.has, decide_eq_true_eq, beq_iff_eq, bne_iff_ne, ne_eq, Bool.not_eq_true', Bool.and_true, Bool.and_self, Bool.true_and, if_true, if_false, reduceIte, Bool.false_eq_true, decide_true, decide_false, beq_self_eq_true, Bool.not_true, Bool.not_false, true_and, and_true, and_self, List.append_assoc, List.nil_append, List.cons_append, Int.toNat_natCast, ck, Int.cast_ofNat_Int, Int.reduceToNat, bne_self_eq_false, Bool.or_false, Bool.false_or, Bool.false_and, Bool.and_false, Bool.or_true, Bool.true_or]
theorem badg_ev (K : Nat) (hE : ed.length ≤ 60) {n : Nat} (hn : n < ed.length) (bad : okB ed n = false) (ok : ∀ q, q < n → okB ed q = true) :
    resX env Try.f21.results.toList (evC env (evF Try.prog env xf (K + 3)) 21 loopFuel bodyg (enter [.sl .ro cF (fl l), .sl .ro cF (fl ed)])) = some (.sl .ro cI []) := by
  have hlE := fl_len ed
  show resX env Try.f21.results.toList (evC env (evF Try.prog env xf (K + 3)) 21 loopFuel (match Try.f21.body with | some c => c | _ => .skip) (enter [.sl .ro cF (fl l), .sl .ro cF (fl ed)])) = _
  simp (decide := true) only [hlE, Try.f21, rid, kl21_2, kl21_9, kl21_13, ↓sBp, sBq, List.all_cons, List.all_nil, List.map_cons, List.map_nil, D.shape, Sh.sub, Sh.size, List.getElem?_cons_zero, List.getElem?_cons_succ, Option.bind_some, Option.bind_none, Option.getD_some, Option.getD_none, V.keysIn, V.kill, V.has, decide_eq_true_eq, beq_iff_eq, bne_iff_ne, ne_eq, Bool.not_eq_true', Bool.and_true, Bool.and_self, Bool.true_and, if_true, if_false, reduceIte, Bool.false_eq_true, decide_true, decide_false, beq_self_eq_true, Bool.not_true, Bool.not_false, true_and, and_true, and_self, List.append_assoc, List.nil_append, List.cons_append, Int.toNat_natCast, ck, Int.cast_ofNat_Int, Int.reduceToNat, bne_self_eq_false, Bool.or_false, Bool.false_or, Bool.false_and, Bool.and_false, Bool.or_true, Bool.true_or]
  rw [iter_run (S := fun k => ⟨tab .junk [(0, .sl .ro cF (fl l)), (1, .sl .ro cF (fl ed)), (13, .sl .ro cF (fl ed)), (14, .d (.s (.int .i64 (ed.length)))), (15, .d (.s (.int .i64 (k))))], tab none []⟩) (n := n) (h0 := ?h0) (hn := ?hn) (step := ?step)]
  case hn => exact lt_loopFuel (by omega)
  case h0 => rfl
  case step =>
    intro k hk
    have g1 : (k : Int) < (ed.length : Int) := by omega
    have n0 := i0 k
    have hw := wrap_succ k (by omega)
    have hg := fl_get ed k (by omega)
    have hok := ok k hk
    cases k with
    | zero =>
      rw [okB_zero] at hok
      have hn : nan (ed.getD 0 0) = false := by simpa using hok
      have hw0 : IntKind.i64.wrap ((0 : Int) + 1) = 1 := rfl
      have e0 : ((0 : Nat) : Int) = 0 := rfl
      have e1 : ((0 + 1 : Nat) : Int) = 1 := rfl
      rw [e0] at g1
      simp (decide := true) only [e0, e1, g1, hg, hw0, isnan_ev, hn, Try.f21, rid, kl21_2, kl21_9, kl21_13, ↓sBp, sBq, List.all_cons, List.all_nil, List.map_cons, List.map_nil, D.shape, Sh.sub, Sh.size, List.getElem?_cons_zero, List.getElem?_cons_succ, Option.bind_some, Option.bind_none, Option.getD_some, Option.getD_none, V.keysIn, V.kill, V.has, decide_eq_true_eq, beq_iff_eq, bne_iff_ne, ne_eq, Bool.not_eq_true', Bool.and_true, Bool.and_self, Bool.true_and, if_true, if_false, reduceIte, Bool.false_eq_true, decide_true, decide_false, beq_self_eq_true, Bool.not_true, Bool.not_false, true_and, and_true, and_self, List.append_assoc, List.nil_append, List.cons_append, Int.toNat_natCast, ck, Int.cast_ofNat_Int, Int.reduceToNat, bne_self_eq_false, Bool.or_false, Bool.false_or, Bool.false_and, Bool.and_false, Bool.or_true, Bool.true_or]
    | succ k =>
      rw [okB_succ, Bool.and_eq_true] at hok
      have hn : nan (ed.getD (k + 1) 0) = false := by simpa using hok.1
      have hf := hok.2
      have m0 := i0 k
      have hgt : (0 : Int) < ((k + 1 : Nat) : Int) := by omega
      have hw1 : IntKind.i64.wrap (((k + 1 : Nat) : Int) - 1) = (k : Int) := by rw [IntWalk.i64_in _ (by omega)]; omega
      have hg1 := fl_get ed k (by omega)
      simp (decide := true) only [g1, n0, hg, hw, isnan_ev, hn, hf, m0, hgt, hw1, hg1, Try.f21, rid, kl21_2, kl21_9, kl21_13, ↓sBp, sBq, List.all_cons, List.all_nil, List.map_cons, List.map_nil, D.shape, Sh.sub, Sh.size, List.getElem?_cons_zero, List.getElem?_cons_succ, Option.bind_some, Option.bind_none, Option.getD_some, Option.getD_none, V.keysIn, V.kill, V.has, decide_eq_true_eq, beq_iff_eq, bne_iff_ne, ne_eq, Bool.not_eq_true', Bool.and_true, Bool.and_self, Bool.true_and, if_true, if_false, reduceIte, Bool.false_eq_true, decide_true, decide_false, beq_self_eq_true, Bool.not_true, Bool.not_false, true_and, and_true, and_self, List.append_assoc, List.nil_append, List.cons_append, Int.toNat_natCast, ck, Int.cast_ofNat_Int, Int.reduceToNat, bne_self_eq_false, Bool.or_false, Bool.false_or, Bool.false_and, Bool.and_false, Bool.or_true, Bool.true_or]
  have g1 : (n : Int) < (ed.length : Int) := by omega
  have n0 := i0 n
  have hg := fl_get ed n hn
  rcases Bool.eq_false_or_eq_true (nan (ed.getD n 0)) with hq | hq
  · simp (decide := true) only [g1, n0, hg, isnan_ev, hq, Try.f21, rid, kl21_2, kl21_9, kl21_13, ↓sBp, sBq, List.all_cons, List.all_nil, List.map_cons, List.map_nil, D.shape, Sh.sub, Sh.size, List.getElem?_cons_zero, List.getElem?_cons_succ, Option.bind_some, Option.bind_none, Option.getD_some, Option.getD_none, V.keysIn, V.kill, V.has, decide_eq_true_eq, beq_iff_eq, bne_iff_ne, ne_eq, Bool.not_eq_true', Bool.and_true, Bool.and_self, Bool.true_and, if_true, if_false, reduceIte, Bool.false_eq_true, decide_true, decide_false, beq_self_eq_true, Bool.not_true, Bool.not_false, true_and, and_true, and_self, List.append_assoc, List.nil_append, List.cons_append, Int.toNat_natCast, ck, Int.cast_ofNat_Int, Int.reduceToNat, bne_self_eq_false, Bool.or_false, Bool.false_or, Bool.false_and, Bool.and_false, Bool.or_true, Bool.true_or]
  · cases n with
    | zero => rw [okB_zero, hq] at bad; cases bad
    | succ n =>
      rw [okB_succ, hq] at bad
      have hf : flt (ed.getD n 0) (ed.getD (n + 1) 0) = false := by simpa using bad
      have m0 := i0 n
      have hgt : (0 : Int) < ((n + 1 : Nat) : Int) := by omega
      have hw1 : IntKind.i64.wrap (((n + 1 : Nat) : Int) - 1) = (n : Int) := by rw [IntWalk.i64_in _ (by omega)]; omega
      have hg1 := fl_get ed n (by omega)
      simp (decide := true) only [g1, n0, hg, isnan_ev, hq, hf, m0, hgt, hw1, hg1, Try.f21, rid, kl21_2, kl21_9, kl21_13, ↓sBp, sBq, List.all_cons, List.all_nil, List.map_cons, List.map_nil, D.shape, Sh.sub, Sh.size, List.getElem?_cons_zero, List.getElem?_cons_succ, Option.bind_some, Option.bind_none, Option.getD_some, Option.getD_none, V.keysIn, V.kill, V.has, decide_eq_true_eq, beq_iff_eq, bne_iff_ne, ne_eq, Bool.not_eq_true', Bool.and_true, Bool.and_self, Bool.true_and, if_true, if_false, reduceIte, Bool.false_eq_true, decide_true, decide_false, beq_self_eq_true, Bool.not_true, Bool.not_false, true_and, and_true, and_self, List.append_assoc, List.nil_append, List.cons_append, Int.toNat_natCast, ck, Int.cast_ofNat_Int, Int.reduceToNat, bne_self_eq_false, Bool.or_false, Bool.false_or, Bool.false_and, Bool.and_false, Bool.or_true, Bool.true_or]
theorem makeg_ev (K : Nat) (hE : ed.length ≤ 60) (c : Code) (hc : (match Try.f21.body with | some (.seq _ (.seq _ (.seq c _))) => c | _ => .skip) = c) :
    fgt ([0, 1, 7], [40]) (evC env (evF Try.prog env xf (K + 3)) 21 loopFuel c ⟨tab .junk [(0, .sl .ro cF (fl l)), (1, .sl .ro cF (fl ed))], tab none []⟩) = some (.normal, ⟨tab .junk [(0, .sl .ro cF (fl l)), (1, .sl .ro cF (fl ed)), (7, .sl (.tg 40) cI (ci (fun _ => 0) (ed.length + 1)))], tab none [(40, some .row)]⟩) := by
  subst hc
  have hlE := fl_len ed
  have hw := wrap_succ ed.length (by omega)
  have hz := ci_zero (ed.length + 1)
  have c0 : ((0 : Int) ≤ ((ed.length + 1 : Nat) : Int) ∧ ((ed.length + 1 : Nat) : Int) ≤ ((ed.length + 1 : Nat) : Int) ∧ ((ed.length + 1 : Nat) : Int) ≤ 1000) := by omega
  simp (decide := true) only [hlE, hw, c0, hz, Int.toNat_natCast, Try.f21, rid, kl21_2, kl21_9, kl21_13, ↓sBp, sBq, List.all_cons, List.all_nil, List.map_cons, List.map_nil, D.shape, Sh.sub, Sh.size, List.getElem?_cons_zero, List.getElem?_cons_succ, Option.bind_some, Option.bind_none, Option.getD_some, Option.getD_none, V.keysIn, V.kill, V.has, decide_eq_true_eq, beq_iff_eq, bne_iff_ne, ne_eq, Bool.not_eq_true', Bool.and_true, Bool.and_self, Bool.true_and, if_true, if_false, reduceIte, Bool.false_eq_true, decide_true, decide_false, beq_self_eq_true, Bool.not_true, Bool.not_false, true_and, and_true, and_self, List.append_assoc, List.nil_append, List.cons_append, Int.toNat_natCast, ck, Int.cast_ofNat_Int, Int.reduceToNat, bne_self_eq_false, Bool.or_false, Bool.false_or, Bool.false_and, Bool.and_false, Bool.or_true, Bool.true_or]
theorem binsg_ok (hl : l.length ≤ 60) (hE : ed.length ≤ 60) : CallOK Try.prog 21 [.sl .ro cF (fl l), .sl .ro cF (fl ed)] (.sl .ro cI (bins ed l)) := by
  rcases first_fail (okB ed) ed.length with ok | ⟨n, h1, h2, h3⟩
  · rw [bins_ok ok]
    refine ⟨binsgFn, fun W vs hra => ?_⟩
    have hv := (RA_at hra).1
    have hlL := fl_len l
    refine calls_of_wp Try.func21 rfl ?_
    have r0 := enter_rel hra 77
    have hn0 : ({ tmps := vs.toArray ++ Array.replicate (77 - vs.toArray.size) undef, defers := [] } : Act).tmps.size = 77 := by simp at hv ⊢; omega
    refine wp_seq ?_
    refine pieceR (b := ([0, 1], [])) (s' := ⟨tab .junk [(0, .sl .ro cF (fl l)), (1, .sl .ro cF (fl ed))], tab none []⟩) (fn := 21) (lf := loopFuel) env_ok (hcallK 3) (by kernel_rfl) ?e1 r0 hn0 (fun a w φ r hn => ?_)
    case e1 => simp (decide := true) only [Try.f21, rid, kl21_2, kl21_9, kl21_13, ↓sBp, sBq, List.all_cons, List.all_nil, List.map_cons, List.map_nil, D.shape, Sh.sub, Sh.size, List.getElem?_cons_zero, List.getElem?_cons_succ, Option.bind_some, Option.bind_none, Option.getD_some, Option.getD_none, V.keysIn, V.kill, V.has, decide_eq_true_eq, beq_iff_eq, bne_iff_ne, ne_eq, Bool.not_eq_true', Bool.and_true, Bool.and_self, Bool.true_and, if_true, if_false, reduceIte, Bool.false_eq_true, decide_true, decide_false, beq_self_eq_true, Bool.not_true, Bool.not_false, true_and, and_true, and_self, List.append_assoc, List.nil_append, List.cons_append, Int.toNat_natCast, ck, Int.cast_ofNat_Int, Int.reduceToNat, bne_self_eq_false, Bool.or_false, Bool.false_or, Bool.false_and, Bool.and_false, Bool.or_true, Bool.true_or]
    refine wp_seq ?_
    refine pieceR (fn := 21) (lf := loopFuel) env_ok (hcallK 3) (by kernel_rfl) (edgesg_ev ed l 0 hE ok) r hn (fun a w φ r hn => ?_)
    refine wp_seq ?_
    refine pieceR (fn := 21) (lf := loopFuel) env_ok (hcallK 3) (by kernel_rfl) (makeg_ev ed l 0 hE _ rfl) r hn (fun a w φ r hn => ?_)
    refine wp_seq ?_
    refine wp_seq ?_
    refine pieceR (b := ([1, 7, 41, 42, 43], [40])) (s' := ⟨tab .junk [(1, .sl .ro cF (fl ed)), (7, .sl (.tg 40) cI (ci (fun _ => 0) (ed.length + 1))), (41, .sl .ro cF (fl l)), (42, .d (.s (.int .i64 (l.length)))), (43, .d (.s (.int .i64 ((0 : Nat)))))], tab none [(40, some .row)]⟩) (fn := 21) (lf := loopFuel) env_ok (hcallK 3) (by kernel_rfl) ?e3 r hn (fun a w φ r hn => ?_)
    case e3 => simp (decide := true) only [hlL, Try.f21, rid, kl21_2, kl21_9, kl21_13, ↓sBp, sBq, List.all_cons, List.all_nil, List.map_cons, List.map_nil, D.shape, Sh.sub, Sh.size, List.getElem?_cons_zero, List.getElem?_cons_succ, Option.bind_some, Option.bind_none, Option.getD_some, Option.getD_none, V.keysIn, V.kill, V.has, decide_eq_true_eq, beq_iff_eq, bne_iff_ne, ne_eq, Bool.not_eq_true', Bool.and_true, Bool.and_self, Bool.true_and, if_true, if_false, reduceIte, Bool.false_eq_true, decide_true, decide_false, beq_self_eq_true, Bool.not_true, Bool.not_false, true_and, and_true, and_self, List.append_assoc, List.nil_append, List.cons_append, Int.toNat_natCast, ck, Int.cast_ofNat_Int, Int.reduceToNat, bne_self_eq_false, Bool.or_false, Bool.false_or, Bool.false_and, Bool.and_false, Bool.or_true, Bool.true_or]
    have r5 := (r.tm 7).2.1
    have one : (a.tmps.getD 7 undef).oneCell' = true := r5.one
    have start : RB W.heap.size W 77 (ci (cn ed l 0) (ed.length + 1)) (a.tmps.getD 7 undef) (B0g ed l 0 (a.tmps.getD 7 undef)) a w := by
      refine ⟨(r.see (i := 7) (v := .d (.s (a.tmps.getD 7 undef))) (s' := ⟨(B0g ed l 0 (a.tmps.getD 7 undef)).t, tab none [(40, some .row)]⟩) ⟨one, rfl⟩ (fun q hq => ?_) rfl rfl).lower (tab_low rfl) (fun _ _ => rfl) (Nat.le_refl _), r5, hn, r.bel⟩
      show tab V.junk _ q = tab V.junk _ q
      simp only [tab, if_neg hq]
    generalize a.tmps.getD 7 undef = u at start
    refine wp_block (wp_loop_rounds (l.length + 1) (roundsg_ok ed l hl hE ok (W := W) (fun a w h => ?_) l.length 0 (by omega) a w start))
    refine wp_seq ?_
    refine h.piece (b := ([4], [])) (s' := ⟨tab .junk [(4, .d (.s u))], tab none []⟩) (s'' := ⟨tab .junk [(4, .d (.s u))], tab none []⟩) (K := 3) (fn := 21) (by kernel_rfl) ?e6 (tab_low rfl) rfl (fun a w h => ?_)
    case e6 => simp (decide := true) only [Try.f21, rid, kl21_2, kl21_9, kl21_13, ↓sBp, sBq, List.all_cons, List.all_nil, List.map_cons, List.map_nil, D.shape, Sh.sub, Sh.size, List.getElem?_cons_zero, List.getElem?_cons_succ, Option.bind_some, Option.bind_none, Option.getD_some, Option.getD_none, V.keysIn, V.kill, V.has, decide_eq_true_eq, beq_iff_eq, bne_iff_ne, ne_eq, Bool.not_eq_true', Bool.and_true, Bool.and_self, Bool.true_and, if_true, if_false, reduceIte, Bool.false_eq_true, decide_true, decide_false, beq_self_eq_true, Bool.not_true, Bool.not_false, true_and, and_true, and_self, List.append_assoc, List.nil_append, List.cons_append, Int.toNat_natCast, ck, Int.cast_ofNat_Int, Int.reduceToNat, bne_self_eq_false, Bool.or_false, Bool.false_or, Bool.false_and, Bool.and_false, Bool.or_true, Bool.true_or]
    refine wp_ret ?_
    exact ⟨h.rel.dfr, u, res4 rfl (h.slot (i := 4) rfl) w, u, rfl, h.bel, h.row⟩
  · rw [bins_bad h1 h2]
    exact ⟨binsgFn, fun w => (body_at env_ok (f := 21) (fn := Try.f21) (c := bodyg) Try.func21 rfl (by kernel_rfl) (by kernel_rfl) (by show 2 ≤ 77; omega) (w := w) (fun g l r h w' _ => hcallK 3 g l r h w') (badg_ev ed l 0 hE h1 h2 h3)).run⟩
end
section
variable (ed l : List Nat)
theorem binsrFn : ∃ fn, Try.prog.funcs[22]? = some fn ∧ fn.body.isNone = false ∧ (fn.name == "runtime.NumGoroutine") = false := ⟨Try.f22, Try.func22, by kernel_rfl, by kernel_rfl⟩
noncomputable def edgesr : Code := match Try.f22.body with
  | some (.seq _ (.seq c _)) => c
  | _ => .skip
noncomputable def bodyr : Code := match Try.f22.body with
  | some c => c
  | _ => .skip
theorem edgesr_ev (K : Nat) (hE : ed.length ≤ 60) (ok : ∀ q, q < ed.length → okB ed q = true) :
    fgt ([0, 1], []) (evC env (evF Try.prog env xf (K + 3)) 22 loopFuel edgesr ⟨tab .junk [(0, .sl .ro cF (fl l)), (1, .sl .ro cF (fl ed))], tab none []⟩) = some (.normal, ⟨tab .junk [(0, .sl .ro cF (fl l)), (1, .sl .ro cF (fl ed))], tab none []⟩) := by
  have hlE := fl_len ed
  show fgt _ (evC env (evF Try.prog env xf (K + 3)) 22 loopFuel (match Try.f22.body with | some (.seq _ (.seq c _)) => c | _ => .skip) _) = _
  simp (decide := true) only [hlE, Try.f22, rid, kl22_2, kl22_9, kl22_13, ↓sBp, sBq, List.all_cons, List.all_nil, List.map_cons, List.map_nil, D.shape, Sh.sub, Sh.size, List.getElem?_cons_zero, List.getElem?_cons_succ, Option.bind_some, Option.bind_none, Option.getD_some, Option.getD_none, V.keysIn, V.kill, V.has, decide_eq_true_eq, beq_iff_eq, bne_iff_ne, ne_eq, Bool.not_eq_true', Bool.and_true, Bool.and_self, Bool.true_and, if_true, if_false, reduceIte, Bool.false_eq_true, decide_true, decide_false, beq_self_eq_true, Bool.not_true, Bool.not_false, true_and, and_true, and_self, List.append_assoc, List.nil_append, List.cons_append, Int.toNat_natCast, ck, Int.cast_ofNat_Int, Int.reduceToNat, bne_self_eq_false, Bool.or_false, Bool.false_or, Bool.false_and, Bool.and_false, Bool.or_true, Bool.true_or]
  rw [iter_run (S := fun k => ⟨tab .junk [(0, .sl .ro cF (fl l)), (1, .sl .ro cF (fl ed)), (11, .sl .ro cF (fl ed)), (12, .d (.s (.int .i64 (ed.length)))), (13, .d (.s (.int .i64 (k))))], tab none []⟩) (n := ed.length) (h0 := ?h0) (hn := ?hn) (step := ?step)]
  case hn => exact lt_loopFuel (by omega)
  case h0 => rfl
  case step =>
    intro k hk
    have g1 : (k : Int) < (ed.length : Int) := by omega
    have n0 := i0 k
    have hw := wrap_succ k (by omega)
    have hg := fl_get ed k hk
    have hok := ok k hk
    cases k with
    | zero =>
      rw [okB_zero] at hok
      have hn : nan (ed.getD 0 0) = false := by simpa using hok
      have hw0 : IntKind.i64.wrap ((0 : Int) + 1) = 1 := rfl
      have e0 : ((0 : Nat) : Int) = 0 := rfl
      have e1 : ((0 + 1 : Nat) : Int) = 1 := rfl
      rw [e0] at g1
      simp (decide := true) only [e0, e1, g1, hg, hw0, isnan_ev, hn, Try.f22, rid, kl22_2, kl22_9, kl22_13, ↓sBp, sBq, List.all_cons, List.all_nil, List.map_cons, List.map_nil, D.shape, Sh.sub, Sh.size, List.getElem?_cons_zero, List.getElem?_cons_succ, Option.bind_some, Option.bind_none, Option.getD_some, Option.getD_none, V.keysIn, V.kill, V.has, decide_eq_true_eq, beq_iff_eq, bne_iff_ne, ne_eq, Bool.not_eq_true', Bool.and_true, Bool.and_self, Bool.true_and, if_true, if_false, reduceIte, Bool.false_eq_true, decide_true, decide_false, beq_self_eq_true, Bool.not_true, Bool.not_false, true_and, and_true, and_self, List.append_assoc, List.nil_append, List.cons_append, Int.toNat_natCast, ck, Int.cast_ofNat_Int, Int.reduceToNat, bne_self_eq_false, Bool.or_false, Bool.false_or, Bool.false_and, Bool.and_false, Bool.or_true, Bool.true_or]
    | succ k =>
      rw [okB_succ, Bool.and_eq_true] at hok
      have hn : nan (ed.getD (k + 1) 0) = false := by simpa using hok.1
      have hf := hok.2
      have m0 := i0 k
      have hgt : (0 : Int) < ((k + 1 : Nat) : Int) := by omega
      have hw1 : IntKind.i64.wrap (((k + 1 : Nat) : Int) - 1) = (k : Int) := by rw [IntWalk.i64_in _ (by omega)]; omega
      have hg1 := fl_get ed k (by omega)
      simp (decide := true) only [g1, n0, hg, hw, isnan_ev, hn, hf, m0, hgt, hw1, hg1, Try.f22, rid, kl22_2, kl22_9, kl22_13, ↓sBp, sBq, List.all_cons, List.all_nil, List.map_cons, List.map_nil, D.shape, Sh.sub, Sh.size, List.getElem?_cons_zero, List.getElem?_cons_succ, Option.bind_some, Option.bind_none, Option.getD_some, Option.getD_none, V.keysIn, V.kill, V.has, decide_eq_true_eq, beq_iff_eq, bne_iff_ne, ne_eq, Bool.not_eq_true', Bool.and_true, Bool.and_self, Bool.true_and, if_true, if_false, reduceIte, Bool.false_eq_true, decide_true, decide_false, beq_self_eq_true, Bool.not_true, Bool.not_false, true_and, and_true, and_self, List.append_assoc, List.nil_append, List.cons_append, Int.toNat_natCast, ck, Int.cast_ofNat_Int, Int.reduceToNat, bne_self_eq_false, Bool.or_false, Bool.false_or, Bool.false_and, Bool.and_false, Bool.or_true, Bool.true_or]
  simp (decide := true) only [Int.lt_irrefl, Try.f22, rid, kl22_2, kl22_9, kl22_13, ↓sBp, sBq, List.all_cons, List.all_nil, List.map_cons, List.map_nil, D.shape, Sh.sub, Sh.size, List.getElem?_cons_zero, List.getElem?_cons_succ, Option.bind_some, Option.bind_none, Option.getD_some, Option.getD_none, V.keysIn, V.kill, V.has, decide_eq_true_eq, beq_iff_eq, bne_iff_ne, ne_eq, Bool.not_eq_true', Bool.and_true, Bool.and_self, Bool.true_and, if_true, if_false, reduceIte, Bool.false_eq_true, decide_true, decide_false, beq_self_eq_true, Bool.not_true, Bool.not_false, true_and, and_true, and_self, List.append_assoc, List.nil_append, List.cons_append, Int.toNat_natCast, ck, Int.cast_ofNat_Int, Int.reduceToNat, bne_self_eq_false, Bool.or_false, Bool.false_or, Bool.false_and, Bool.and_false, Bool.or_true, Bool.true_or]
theorem badr_ev (K : Nat) (hE : ed.length ≤ 60) {n : Nat} (hn : n < ed.length) (bad : okB ed n = false) (ok : ∀ q, q < n → okB ed q = true) :
    resX env Try.f22.results.toList (evC env (evF Try.prog env xf (K + 3)) 22 loopFuel bodyr (enter [.sl .ro cF (fl l), .sl .ro cF (fl ed)])) = some (.sl .ro cI []) := by
  have hlE := fl_len ed
  show resX env Try.f22.results.toList (evC env (evF Try.prog env xf (K + 3)) 22 loopFuel (match Try.f22.body with | some c => c | _ => .skip) (enter [.sl .ro cF (fl l), .sl .ro cF (fl ed)])) = _
  simp (decide := true) only [hlE, Try.f22, rid, kl22_2, kl22_9, kl22_13, ↓sBp, sBq, List.all_cons, List.all_nil, List.map_cons, List.map_nil, D.shape, Sh.sub, Sh.size, List.getElem?_cons_zero, List.getElem?_cons_succ, Option.bind_some, Option.bind_none, Option.getD_some, Option.getD_none, V.keysIn, V.kill, V.has, decide_eq_true_eq, beq_iff_eq, bne_iff_ne, ne_eq, Bool.not_eq_true', Bool.and_true, Bool.and_self, Bool.true_and, if_true, if_false, reduceIte, Bool.false_eq_true, decide_true, decide_false, beq_self_eq_true, Bool.not_true, Bool.not_false, true_and, and_true, and_self, List.append_assoc, List.nil_append, List.cons_append, Int.toNat_natCast, ck, Int.cast_ofNat_Int, Int.reduceToNat, bne_self_eq_false, Bool.or_false, Bool.false_or, Bool.false_and, Bool.and_false, Bool.or_true, Bool.true_or]
  rw [iter_run (S := fun k => ⟨tab .junk [(0, .sl .ro cF (fl l)), (1, .sl .ro cF (fl ed)), (11, .sl .ro cF (fl ed)), (12, .d (.s (.int .i64 (ed.length)))), (13, .d (.s (.int .i64 (k))))], tab none []⟩) (n := n) (h0 := ?h0) (hn := ?hn) (step := ?step)]
  case hn => exact lt_loopFuel (by omega)
  case h0 => rfl
  case step =>
    intro k hk
    have g1 : (k : Int) < (ed.length : Int) := by omega
    have n0 := i0 k
    have hw := wrap_succ k (by omega)
    have hg := fl_get ed k (by omega)
    have hok := ok k hk
    cases k with
    | zero =>
      rw [okB_zero] at hok
      have hn : nan (ed.getD 0 0) = false := by simpa using hok
      have hw0 : IntKind.i64.wrap ((0 : Int) + 1) = 1 := rfl
      have e0 : ((0 : Nat) : Int) = 0 := rfl
      have e1 : ((0 + 1 : Nat) : Int) = 1 := rfl
      rw [e0] at g1
      simp (decide := true) only [e0, e1, g1, hg, hw0, isnan_ev, hn, Try.f22, rid, kl22_2, kl22_9, kl22_13, ↓sBp, sBq, List.all_cons, List.all_nil, List.map_cons, List.map_nil, D.shape, Sh.sub, Sh.size, List.getElem?_cons_zero, List.getElem?_cons_succ, Option.bind_some, Option.bind_none, Option.getD_some, Option.getD_none, V.keysIn, V.kill, V.has, decide_eq_true_eq, beq_iff_eq, bne_iff_ne, ne_eq, Bool.not_eq_true', Bool.and_true, Bool.and_self, Bool.true_and, if_true, if_false, reduceIte, Bool.false_eq_true, decide_true, decide_false, beq_self_eq_true, Bool.not_true, Bool.not_false, true_and, and_true, and_self, List.append_assoc, List.nil_append, List.cons_append, Int.toNat_natCast, ck, Int.cast_ofNat_Int, Int.reduceToNat, bne_self_eq_false, Bool.or_false, Bool.false_or, Bool.false_and, Bool.and_false, Bool.or_true, Bool.true_or]
    | succ k =>
      rw [okB_succ, Bool.and_eq_true] at hok
      have hn : nan (ed.getD (k + 1) 0) = false := by simpa using hok.1
      have hf := hok.2
      have m0 := i0 k
      have hgt : (0 : Int) < ((k + 1 : Nat) : Int) := by omega
      have hw1 : IntKind.i64.wrap (((k + 1 : Nat) : Int) - 1) = (k : Int) := by rw [IntWalk.i64_in _ (by omega)]; omega
      have hg1 := fl_get ed k (by omega)
      simp (decide := true) only [g1, n0, hg, hw, isnan_ev, hn, hf, m0, hgt, hw1, hg1, Try.f22, rid, kl22_2, kl22_9, kl22_13, ↓sBp, sBq, List.all_cons, List.all_nil, List.map_cons, List.map_nil, D.shape, Sh.sub, Sh.size, List.getElem?_cons_zero, List.getElem?_cons_succ, Option.bind_some, Option.bind_none, Option.getD_some, Option.getD_none, V.keysIn, V.kill, V.has, decide_eq_true_eq, beq_iff_eq, bne_iff_ne, ne_eq, Bool.not_eq_true', Bool.and_true, Bool.and_self, Bool.true_and, if_true, if_false, reduceIte, Bool.false_eq_true, decide_true, decide_false, beq_self_eq_true, Bool.not_true, Bool.not_false, true_and, and_true, and_self, List.append_assoc, List.nil_append, List.cons_append, Int.toNat_natCast, ck, Int.cast_ofNat_Int, Int.reduceToNat, bne_self_eq_false, Bool.or_false, Bool.false_or, Bool.false_and, Bool.and_false, Bool.or_true, Bool.true_or]
  have g1 : (n : Int) < (ed.length : Int) := by omega
  have n0 := i0 n
  have hg := fl_get ed n hn
  rcases Bool.eq_false_or_eq_true (nan (ed.getD n 0)) with hq | hq
  · simp (decide := true) only [g1, n0, hg, isnan_ev, hq, Try.f22, rid, kl22_2, kl22_9, kl22_13, ↓sBp, sBq, List.all_cons, List.all_nil, List.map_cons, List.map_nil, D.shape, Sh.sub, Sh.size, List.getElem?_cons_zero, List.getElem?_cons_succ, Option.bind_some, Option.bind_none, Option.getD_some, Option.getD_none, V.keysIn, V.kill, V.has, decide_eq_true_eq, beq_iff_eq, bne_iff_ne, ne_eq, Bool.not_eq_true', Bool.and_true, Bool.and_self, Bool.true_and, if_true, if_false, reduceIte, Bool.false_eq_true, decide_true, decide_false, beq_self_eq_true, Bool.not_true, Bool.not_false, true_and, and_true, and_self, List.append_assoc, List.nil_append, List.cons_append, Int.toNat_natCast, ck, Int.cast_ofNat_Int, Int.reduceToNat, bne_self_eq_false, Bool.or_false, Bool.false_or, Bool.false_and, Bool.and_false, Bool.or_true, Bool.true_or]
  · cases n with
    | zero => rw [okB_zero, hq] at bad; cases bad
    | succ n =>
      rw [okB_succ, hq] at bad
      have hf : flt (ed.getD n 0) (ed.getD (n + 1) 0) = false := by simpa using bad
      have m0 := i0 n
      have hgt : (0 : Int) < ((n + 1 : Nat) : Int) := by omega
      have hw1 : IntKind.i64.wrap (((n + 1 : Nat) : Int) - 1) = (n : Int) := by rw [IntWalk.i64_in _ (by omega)]; omega
      have hg1 := fl_get ed n (by omega)
      simp (decide := true) only [g1, n0, hg, isnan_ev, hq, hf, m0, hgt, hw1, hg1, Try.f22, rid, kl22_2, kl22_9, kl22_13, ↓sBp, sBq, List.all_cons, List.all_nil, List.map_cons, List.map_nil, D.shape, Sh.sub, Sh.size, List.getElem?_cons_zero, List.getElem?_cons_succ, Option.bind_some, Option.bind_none, Option.getD_some, Option.getD_none, V.keysIn, V.kill, V.has, decide_eq_true_eq, beq_iff_eq, bne_iff_ne, ne_eq, Bool.not_eq_true', Bool.and_true, Bool.and_self, Bool.true_and, if_true, if_false, reduceIte, Bool.false_eq_true, decide_true, decide_false, beq_self_eq_true, Bool.not_true, Bool.not_false, true_and, and_true, and_self, List.append_assoc, List.nil_append, List.cons_append, Int.toNat_natCast, ck, Int.cast_ofNat_Int, Int.reduceToNat, bne_self_eq_false, Bool.or_false, Bool.false_or, Bool.false_and, Bool.and_false, Bool.or_true, Bool.true_or]
theorem maker_ev (K : Nat) (hE : ed.length ≤ 60) (c : Code) (hc : (match Try.f22.body with | some (.seq _ (.seq _ (.seq c _))) => c | _ => .skip) = c) :
    fgt ([0, 1, 7], [38]) (evC env (evF Try.prog env xf (K + 3)) 22 loopFuel c ⟨tab .junk [(0, .sl .ro cF (fl l)), (1, .sl .ro cF (fl ed))], tab none []⟩) = some (.normal, ⟨tab .junk [(0, .sl .ro cF (fl l)), (1, .sl .ro cF (fl ed)), (7, .sl (.tg 38) cI (ci (fun _ => 0) (ed.length + 1)))], tab none [(38, some .row)]⟩) := by
  subst hc
  have hlE := fl_len ed
  have hw := wrap_succ ed.length (by omega)
  have hz := ci_zero (ed.length + 1)
  have c0 : ((0 : Int) ≤ ((ed.length + 1 : Nat) : Int) ∧ ((ed.length + 1 : Nat) : Int) ≤ ((ed.length + 1 : Nat) : Int) ∧ ((ed.length + 1 : Nat) : Int) ≤ 1000) := by omega
  simp (decide := true) only [hlE, hw, c0, hz, Int.toNat_natCast, Try.f22, rid, kl22_2, kl22_9, kl22_13, ↓sBp, sBq, List.all_cons, List.all_nil, List.map_cons, List.map_nil, D.shape, Sh.sub, Sh.size, List.getElem?_cons_zero, List.getElem?_cons_succ, Option.bind_some, Option.bind_none, Option.getD_some, Option.getD_none, V.keysIn, V.kill, V.has, decide_eq_true_eq, beq_iff_eq, bne_iff_ne, ne_eq, Bool.not_eq_true', Bool.and_true, Bool.and_self, Bool.true_and, if_true, if_false, reduceIte, Bool.false_eq_true, decide_true, decide_false, beq_self_eq_true, Bool.not_true, Bool.not_false, true_and, and_true, and_self, List.append_assoc, List.nil_append, List.cons_append, Int.toNat_natCast, ck, Int.cast_ofNat_Int, Int.reduceToNat, bne_self_eq_false, Bool.or_false, Bool.false_or, Bool.false_and, Bool.and_false, Bool.or_true, Bool.true_or]
theorem binsr_ok (hl : l.length ≤ 60) (hE : ed.length ≤ 60) : CallOK Try.prog 22 [.sl .ro cF (fl l), .sl .ro cF (fl ed)] (.sl .ro cI (bins ed l)) := by
  rcases first_fail (okB ed) ed.length with ok | ⟨n, h1, h2, h3⟩
  · rw [bins_ok ok]
    refine ⟨binsrFn, fun W vs hra => ?_⟩
    have hv := (RA_at hra).1
    have hlL := fl_len l
    refine calls_of_wp Try.func22 rfl ?_
    have r0 := enter_rel hra 69
    have hn0 : ({ tmps := vs.toArray ++ Array.replicate (69 - vs.toArray.size) undef, defers := [] } : Act).tmps.size = 69 := by simp at hv ⊢; omega
    refine wp_seq ?_
    refine pieceR (b := ([0, 1], [])) (s' := ⟨tab .junk [(0, .sl .ro cF (fl l)), (1, .sl .ro cF (fl ed))], tab none []⟩) (fn := 22) (lf := loopFuel) env_ok (hcallK 3) (by kernel_rfl) ?e1 r0 hn0 (fun a w φ r hn => ?_)
    case e1 => simp (decide := true) only [Try.f22, rid, kl22_2, kl22_9, kl22_13, ↓sBp, sBq, List.all_cons, List.all_nil, List.map_cons, List.map_nil, D.shape, Sh.sub, Sh.size, List.getElem?_cons_zero, List.getElem?_cons_succ, Option.bind_some, Option.bind_none, Option.getD_some, Option.getD_none, V.keysIn, V.kill, V.has, decide_eq_true_eq, beq_iff_eq, bne_iff_ne, ne_eq, Bool.not_eq_true', Bool.and_true, Bool.and_self, Bool.true_and, if_true, if_false, reduceIte, Bool.false_eq_true, decide_true, decide_false, beq_self_eq_true, Bool.not_true, Bool.not_false, true_and, and_true, and_self, List.append_assoc, List.nil_append, List.cons_append, Int.toNat_natCast, ck, Int.cast_ofNat_Int, Int.reduceToNat, bne_self_eq_false, Bool.or_false, Bool.false_or, Bool.false_and, Bool.and_false, Bool.or_true, Bool.true_or]
    refine wp_seq ?_
    refine pieceR (fn := 22) (lf := loopFuel) env_ok (hcallK 3) (by kernel_rfl) (edgesr_ev ed l 0 hE ok) r hn (fun a w φ r hn => ?_)
    refine wp_seq ?_
    refine pieceR (fn := 22) (lf := loopFuel) env_ok (hcallK 3) (by kernel_rfl) (maker_ev ed l 0 hE _ rfl) r hn (fun a w φ r hn => ?_)
    refine wp_seq ?_
    refine wp_seq ?_
    refine pieceR (b := ([1, 7, 39, 40, 41], [38])) (s' := ⟨tab .junk [(1, .sl .ro cF (fl ed)), (7, .sl (.tg 38) cI (ci (fun _ => 0) (ed.length + 1))), (39, .sl .ro cF (fl l)), (40, .d (.s (.int .i64 (l.length)))), (41, .d (.s (.int .i64 ((0 : Nat)))))], tab none [(38, some .row)]⟩) (fn := 22) (lf := loopFuel) env_ok (hcallK 3) (by kernel_rfl) ?e3 r hn (fun a w φ r hn => ?_)
    case e3 => simp (decide := true) only [hlL, Try.f22, rid, kl22_2, kl22_9, kl22_13, ↓sBp, sBq, List.all_cons, List.all_nil, List.map_cons, List.map_nil, D.shape, Sh.sub, Sh.size, List.getElem?_cons_zero, List.getElem?_cons_succ, Option.bind_some, Option.bind_none, Option.getD_some, Option.getD_none, V.keysIn, V.kill, V.has, decide_eq_true_eq, beq_iff_eq, bne_iff_ne, ne_eq, Bool.not_eq_true', Bool.and_true, Bool.and_self, Bool.true_and, if_true, if_false, reduceIte, Bool.false_eq_true, decide_true, decide_false, beq_self_eq_true, Bool.not_true, Bool.not_false, true_and, and_true, and_self, List.append_assoc, List.nil_append, List.cons_append, Int.toNat_natCast, ck, Int.cast_ofNat_Int, Int.reduceToNat, bne_self_eq_false, Bool.or_false, Bool.false_or, Bool.false_and, Bool.and_false, Bool.or_true, Bool.true_or]
    have r5 := (r.tm 7).2.1
    have one : (a.tmps.getD 7 undef).oneCell' = true := r5.one
    have start : RB W.heap.size W 69 (ci (cn ed l 0) (ed.length + 1)) (a.tmps.getD 7 undef) (B0r ed l 0 (a.tmps.getD 7 undef)) a w := by
      refine ⟨(r.see (i := 7) (v := .d (.s (a.tmps.getD 7 undef))) (s' := ⟨(B0r ed l 0 (a.tmps.getD 7 undef)).t, tab none [(38, some .row)]⟩) ⟨one, rfl⟩ (fun q hq => ?_) rfl rfl).lower (tab_low rfl) (fun _ _ => rfl) (Nat.le_refl _), r5, hn, r.bel⟩
      show tab V.junk _ q = tab V.junk _ q
      simp only [tab, if_neg hq]
    generalize a.tmps.getD 7 undef = u at start
    refine wp_block (wp_loop_rounds (l.length + 1) (roundsr_ok ed l hl hE ok (W := W) (fun a w h => ?_) l.length 0 (by omega) a w start))
    refine wp_seq ?_
    refine h.piece (b := ([4], [])) (s' := ⟨tab .junk [(4, .d (.s u))], tab none []⟩) (s'' := ⟨tab .junk [(4, .d (.s u))], tab none []⟩) (K := 3) (fn := 22) (by kernel_rfl) ?e6 (tab_low rfl) rfl (fun a w h => ?_)
    case e6 => simp (decide := true) only [Try.f22, rid, kl22_2, kl22_9, kl22_13, ↓sBp, sBq, List.all_cons, List.all_nil, List.map_cons, List.map_nil, D.shape, Sh.sub, Sh.size, List.getElem?_cons_zero, List.getElem?_cons_succ, Option.bind_some, Option.bind_none, Option.getD_some, Option.getD_none, V.keysIn, V.kill, V.has, decide_eq_true_eq, beq_iff_eq, bne_iff_ne, ne_eq, Bool.not_eq_true', Bool.and_true, Bool.and_self, Bool.true_and, if_true, if_false, reduceIte, Bool.false_eq_true, decide_true, decide_false, beq_self_eq_true, Bool.not_true, Bool.not_false, true_and, and_true, and_self, List.append_assoc, List.nil_append, List.cons_append, Int.toNat_natCast, ck, Int.cast_ofNat_Int, Int.reduceToNat, bne_self_eq_false, Bool.or_false, Bool.false_or, Bool.false_and, Bool.and_false, Bool.or_true, Bool.true_or]
    refine wp_ret ?_
    exact ⟨h.rel.dfr, u, res4 rfl (h.slot (i := 4) rfl) w, u, rfl, h.bel, h.row⟩
  · rw [bins_bad h1 h2]
    exact ⟨binsrFn, fun w => (body_at env_ok (f := 22) (fn := Try.f22) (c := bodyr) Try.func22 rfl (by kernel_rfl) (by kernel_rfl) (by show 2 ≤ 69; omega) (w := w) (fun g l r h w' _ => hcallK 3 g l r h w') (badr_ev ed l 0 hE h1 h2 h3)).run⟩
end
end Go.Proofs.Ytfmbchnejelpkaa.Ev
