/- Bins: every round. -/
import Derived.Test.YtfmbchnejelpkaaUn
namespace Go.Proofs.Ytfmbchnejelpkaa.Ev
open Go
attribute [local congr] ob_congr sq_congr cd_congr ite_congr1 iter_congr it1_congr jumps_congr
set_option maxRecDepth 100000
set_option linter.unusedSimpArgs false
set_option linter.unusedVariables false
open Go.RowKit
section
variable (ed l : List Nat)
abbrev B0g (i : Nat) (u : Value) : St := ⟨tab .junk [(1, .sl .ro cF (fl ed)), (7, .d (.s u)), (41, .sl .ro cF (fl l)), (42, .d (.s (.int .i64 (l.length)))), (43, .d (.s (.int .i64 (i))))], tab none []⟩
abbrev B1g (i : Nat) (u : Value) (b : Bool) : St := ⟨tab .junk [(1, .sl .ro cF (fl ed)), (7, .d (.s u)), (41, .sl .ro cF (fl l)), (42, .d (.s (.int .i64 (l.length)))), (43, .d (.s (.int .i64 (i)))), (44, .d (.s (.bool (b))))], tab none []⟩
abbrev B2g (i x : Nat) (u : Value) : St := ⟨tab .junk [(1, .sl .ro cF (fl ed)), (7, .d (.s u)), (9, .d (dF x)), (41, .sl .ro cF (fl l)), (42, .d (.s (.int .i64 (l.length)))), (43, .d (.s (.int .i64 (i))))], tab none []⟩
abbrev B3g (i x : Nat) (u : Value) (b : Bool) : St := ⟨tab .junk [(1, .sl .ro cF (fl ed)), (7, .d (.s u)), (9, .d (dF x)), (41, .sl .ro cF (fl l)), (42, .d (.s (.int .i64 (l.length)))), (43, .d (.s (.int .i64 (i)))), (48, .d (.s (.bool (b))))], tab none []⟩
abbrev B4g (i x : Nat) (u : Value) : St := ⟨tab .junk [(1, .sl .ro cF (fl ed)), (7, .d (.s u)), (9, .d (dF x)), (10, .d (.s (.int .i64 (0)))), (11, .d (.s (.int .i64 (ed.length)))), (41, .sl .ro cF (fl l)), (42, .d (.s (.int .i64 (l.length)))), (43, .d (.s (.int .i64 (i))))], tab none []⟩
noncomputable def roundg : Code := match Try.f21.body with
  | some (.seq _ (.seq _ (.seq _ (.seq (.seq _ (.block _ (.loop c))) _)))) => c
  | _ => .skip
noncomputable def findg : Code := match roundg with
  | .seq _ (.seq _ (.seq (.block _ (.seq _ (.seq _ (.seq _ (.seq c _))))) _)) => c
  | _ => .skip
theorem quo2 (h l : Nat) (hl : l ≤ h) (hh : h < 1000000) : IntKind.i64.wrap ((IntKind.i64.wrap ((h : Int) - (l : Int))).tdiv 2) = (((h - l) / 2 : Nat) : Int) := by
  rw [wsub hl hh]
  have : (((h - l : Nat) : Int)).tdiv 2 = (((h - l) / 2 : Nat) : Int) := by rw [Int.tdiv_eq_ediv_of_nonneg (by omega)]; omega
  rw [this, IntWalk.i64_in _ (by omega)]
set_option maxHeartbeats 4000000 in
theorem findg_ev (K i x : Nat) (u : Value) (hE : ed.length ≤ 60) (ok : ∀ q, q < ed.length → okB ed q = true) :
    fgt ([1, 7, 10, 41, 42, 43], []) (evC env (evF Try.prog env xf (K + 3)) 21 loopFuel findg (B4g ed l i x u)) = some (.normal, C3g ed l i (bin ed x) u) := by
  have hlE := fl_len ed
  show fgt _ (evC env (evF Try.prog env xf (K + 3)) 21 loopFuel (match roundg with | .seq _ (.seq _ (.seq (.block _ (.seq _ (.seq _ (.seq _ (.seq c _))))) _)) => c | _ => .skip) (B4g ed l i x u)) = _
  simp (decide := true) only [roundg, Try.f21, rid, kl21_2, kl21_9, kl21_13, ↓sBp, sBq, List.all_cons, List.all_nil, List.map_cons, List.map_nil, D.shape, Sh.sub, Sh.size, List.getElem?_cons_zero, List.getElem?_cons_succ, Option.bind_some, Option.bind_none, Option.getD_some, Option.getD_none, V.keysIn, V.kill, V.has, decide_eq_true_eq, beq_iff_eq, bne_iff_ne, ne_eq, Bool.not_eq_true', Bool.and_true, Bool.and_self, Bool.true_and, if_true, if_false, reduceIte, Bool.false_eq_true, decide_true, decide_false, beq_self_eq_true, Bool.not_true, Bool.not_false, true_and, and_true, and_self, List.append_assoc, List.nil_append, List.cons_append, Int.toNat_natCast, ck, Int.cast_ofNat_Int, Int.reduceToNat, bne_self_eq_false, Bool.or_false, Bool.false_or, Bool.false_and, Bool.and_false, Bool.or_true, Bool.true_or]
  generalize hI : iter _ _ _ = r
  have hM := iter_meas hI (fun q : Nat × Nat => ⟨tab .junk [(1, .sl .ro cF (fl ed)), (7, .d (.s u)), (9, .d (dF x)), (10, .d (.s (.int .i64 (q.1)))), (11, .d (.s (.int .i64 (q.2)))), (41, .sl .ro cF (fl l)), (42, .d (.s (.int .i64 (l.length)))), (43, .d (.s (.int .i64 (i))))], tab none [(40, none)]⟩)
    (fun q => q.1 ≤ q.2 ∧ q.2 ≤ ed.length ∧ (q.1 = 0 ∨ fle (ed.getD (q.1 - 1) 0) x = true) ∧ (q.2 = ed.length ∨ fle (ed.getD q.2 0) x = false)) (fun q => q.1 < q.2) (fun q => q.2 - q.1) (0, ed.length) rfl
    ⟨Nat.zero_le _, Nat.le_refl _, .inl rfl, .inl rfl⟩ (lt_loopFuel (by show ed.length - 0 < 1000000; omega))
  obtain ⟨⟨p, q⟩, lf, ⟨h1, h2, h3, h4⟩, hgo, rfl⟩ := hM (by
    rintro ⟨p, q⟩ ⟨h1, h2, h3, h4⟩ hgo
    simp only at h1 h2 h3 h4 hgo
    have g1 : (p : Int) < (q : Int) := by omega
    have w1 := wsub (a := q) (b := p) h1 (by omega)
    have w2 : (((q - p : Nat) : Int)).tdiv 2 = (((q - p) / 2 : Nat) : Int) := by rw [Int.tdiv_eq_ediv_of_nonneg (by omega)]; omega
    have w3 : IntKind.i64.wrap ((((q - p) / 2 : Nat) : Int)) = (((q - p) / 2 : Nat) : Int) := IntWalk.i64_in _ (by omega)
    have w4 := wadd (a := p) (b := (q - p) / 2) (by omega) (by omega)
    have hg := fl_get ed (p + (q - p) / 2) (by omega)
    have n0 := i0 (p + (q - p) / 2)
    have wh := wrap_succ (p + (q - p) / 2) (by omega)
    rcases Bool.eq_false_or_eq_true (fle (ed.getD (p + (q - p) / 2) 0) x) with hc | hc
    · refine ⟨(p + (q - p) / 2 + 1, q), ?_, ⟨by show p + (q - p) / 2 + 1 ≤ q; omega, h2, .inr hc, h4⟩, by show q - (p + (q - p) / 2 + 1) < q - p; omega⟩
      simp (decide := true) only [g1, w1, w2, w3, w4, hg, n0, wh, hc, Try.f21, rid, kl21_2, kl21_9, kl21_13, ↓sBp, sBq, List.all_cons, List.all_nil, List.map_cons, List.map_nil, D.shape, Sh.sub, Sh.size, List.getElem?_cons_zero, List.getElem?_cons_succ, Option.bind_some, Option.bind_none, Option.getD_some, Option.getD_none, V.keysIn, V.kill, V.has, decide_eq_true_eq, beq_iff_eq, bne_iff_ne, ne_eq, Bool.not_eq_true', Bool.and_true, Bool.and_self, Bool.true_and, if_true, if_false, reduceIte, Bool.false_eq_true, decide_true, decide_false, beq_self_eq_true, Bool.not_true, Bool.not_false, true_and, and_true, and_self, List.append_assoc, List.nil_append, List.cons_append, Int.toNat_natCast, ck, Int.cast_ofNat_Int, Int.reduceToNat, bne_self_eq_false, Bool.or_false, Bool.false_or, Bool.false_and, Bool.and_false, Bool.or_true, Bool.true_or]
    · refine ⟨(p, p + (q - p) / 2), ?_, ⟨by show p ≤ p + (q - p) / 2; omega, by show p + (q - p) / 2 ≤ ed.length; omega, h3, .inr hc⟩, by show p + (q - p) / 2 - p < q - p; omega⟩
      simp (decide := true) only [g1, w1, w2, w3, w4, hg, n0, wh, hc, Try.f21, rid, kl21_2, kl21_9, kl21_13, ↓sBp, sBq, List.all_cons, List.all_nil, List.map_cons, List.map_nil, D.shape, Sh.sub, Sh.size, List.getElem?_cons_zero, List.getElem?_cons_succ, Option.bind_some, Option.bind_none, Option.getD_some, Option.getD_none, V.keysIn, V.kill, V.has, decide_eq_true_eq, beq_iff_eq, bne_iff_ne, ne_eq, Bool.not_eq_true', Bool.and_true, Bool.and_self, Bool.true_and, if_true, if_false, reduceIte, Bool.false_eq_true, decide_true, decide_false, beq_self_eq_true, Bool.not_true, Bool.not_false, true_and, and_true, and_self, List.append_assoc, List.nil_append, List.cons_append, Int.toNat_natCast, ck, Int.cast_ofNat_Int, Int.reduceToNat, bne_self_eq_false, Bool.or_false, Bool.false_or, Bool.false_and, Bool.and_false, Bool.or_true, Bool.true_or])
  simp only at h1 h2 h3 h4 hgo
  have e : q = p := by omega
  subst e
  have hb := bin_is ok h2 h3 h4
  subst hb
  have g1 : ¬ ((bin ed x : Nat) : Int) < ((bin ed x : Nat) : Int) := by omega
  simp (decide := true) only [g1, Try.f21, rid, kl21_2, kl21_9, kl21_13, ↓sBp, sBq, List.all_cons, List.all_nil, List.map_cons, List.map_nil, D.shape, Sh.sub, Sh.size, List.getElem?_cons_zero, List.getElem?_cons_succ, Option.bind_some, Option.bind_none, Option.getD_some, Option.getD_none, V.keysIn, V.kill, V.has, decide_eq_true_eq, beq_iff_eq, bne_iff_ne, ne_eq, Bool.not_eq_true', Bool.and_true, Bool.and_self, Bool.true_and, if_true, if_false, reduceIte, Bool.false_eq_true, decide_true, decide_false, beq_self_eq_true, Bool.not_true, Bool.not_false, true_and, and_true, and_self, List.append_assoc, List.nil_append, List.cons_append, Int.toNat_natCast, ck, Int.cast_ofNat_Int, Int.reduceToNat, bne_self_eq_false, Bool.or_false, Bool.false_or, Bool.false_and, Bool.and_false, Bool.or_true, Bool.true_or]
  rfl
theorem roundg_ok {i : Nat} (hi : i < l.length) (hl : l.length ≤ 60) (hE : ed.length ≤ 60) (ok : ∀ q, q < ed.length → okB ed q = true) {B : Nat} {W w : World} {u : Value} {Q : Exit → Act → World → Prop} {a : Act} (h : RB B W 77 (ci (cn ed l i) (ed.length + 1)) u (B0g ed l i u) a w)
    (hQ : ∀ a' w', RB B W 77 (ci (cn ed l (i + 1)) (ed.length + 1)) u (B0g ed l (i + 1) u) a' w' → Q .normal a' w') : roundg.wp Try.prog Q a w := by
  have hi1 : (i : Int) < (l.length : Int) := by omega
  have n0 := i0 i
  have hiw := wrap_succ i (by omega)
  have hg := fl_get l i hi
  have hlE := fl_len ed
  refine wp_seq ?_
  refine h.piece (b := ([1, 7, 41, 42, 43, 44], [])) (s' := B1g ed l i u true) (s'' := B1g ed l i u true) (K := 3) (fn := 21) (by kernel_rfl) ?e1 (tab_low rfl) rfl (fun a w h => ?_)
  case e1 => simp (decide := true) only [hi1, Try.f21, rid, kl21_2, kl21_9, kl21_13, ↓sBp, sBq, List.all_cons, List.all_nil, List.map_cons, List.map_nil, D.shape, Sh.sub, Sh.size, List.getElem?_cons_zero, List.getElem?_cons_succ, Option.bind_some, Option.bind_none, Option.getD_some, Option.getD_none, V.keysIn, V.kill, V.has, decide_eq_true_eq, beq_iff_eq, bne_iff_ne, ne_eq, Bool.not_eq_true', Bool.and_true, Bool.and_self, Bool.true_and, if_true, if_false, reduceIte, Bool.false_eq_true, decide_true, decide_false, beq_self_eq_true, Bool.not_true, Bool.not_false, true_and, and_true, and_self, List.append_assoc, List.nil_append, List.cons_append, Int.toNat_natCast, ck, Int.cast_ofNat_Int, Int.reduceToNat, bne_self_eq_false, Bool.or_false, Bool.false_or, Bool.false_and, Bool.and_false, Bool.or_true, Bool.true_or]
  refine wp_seq ?_
  refine wp_cond_true (h.slot (i := 44) rfl) (wp_skip ?_)
  refine wp_seq ?_
  refine wp_block ?_
  refine wp_seq ?_
  refine h.piece (b := ([1, 7, 9, 41, 42, 43], [])) (s' := B2g ed l i (l.getD i 0) u) (s'' := B2g ed l i (l.getD i 0) u) (K := 3) (fn := 21) (by kernel_rfl) ?e2 (tab_low rfl) rfl (fun a w h => ?_)
  case e2 => simp (decide := true) only [n0, hg, Try.f21, rid, kl21_2, kl21_9, kl21_13, ↓sBp, sBq, List.all_cons, List.all_nil, List.map_cons, List.map_nil, D.shape, Sh.sub, Sh.size, List.getElem?_cons_zero, List.getElem?_cons_succ, Option.bind_some, Option.bind_none, Option.getD_some, Option.getD_none, V.keysIn, V.kill, V.has, decide_eq_true_eq, beq_iff_eq, bne_iff_ne, ne_eq, Bool.not_eq_true', Bool.and_true, Bool.and_self, Bool.true_and, if_true, if_false, reduceIte, Bool.false_eq_true, decide_true, decide_false, beq_self_eq_true, Bool.not_true, Bool.not_false, true_and, and_true, and_self, List.append_assoc, List.nil_append, List.cons_append, Int.toNat_natCast, ck, Int.cast_ofNat_Int, Int.reduceToNat, bne_self_eq_false, Bool.or_false, Bool.false_or, Bool.false_and, Bool.and_false, Bool.or_true, Bool.true_or]
  refine wp_seq ?_
  refine wp_seq ?_
  refine h.piece (b := ([1, 7, 9, 41, 42, 43, 48], [])) (s' := B3g ed l i (l.getD i 0) u (nan (l.getD i 0))) (s'' := B3g ed l i (l.getD i 0) u (nan (l.getD i 0))) (K := 3) (fn := 21) (by kernel_rfl) ?e3 (tab_low rfl) rfl (fun a w h => ?_)
  case e3 => simp (decide := true) only [isnan_ev, Try.f21, rid, kl21_2, kl21_9, kl21_13, ↓sBp, sBq, List.all_cons, List.all_nil, List.map_cons, List.map_nil, D.shape, Sh.sub, Sh.size, List.getElem?_cons_zero, List.getElem?_cons_succ, Option.bind_some, Option.bind_none, Option.getD_some, Option.getD_none, V.keysIn, V.kill, V.has, decide_eq_true_eq, beq_iff_eq, bne_iff_ne, ne_eq, Bool.not_eq_true', Bool.and_true, Bool.and_self, Bool.true_and, if_true, if_false, reduceIte, Bool.false_eq_true, decide_true, decide_false, beq_self_eq_true, Bool.not_true, Bool.not_false, true_and, and_true, and_self, List.append_assoc, List.nil_append, List.cons_append, Int.toNat_natCast, ck, Int.cast_ofNat_Int, Int.reduceToNat, bne_self_eq_false, Bool.or_false, Bool.false_or, Bool.false_and, Bool.and_false, Bool.or_true, Bool.true_or]
  cases hn : nan (l.getD i 0) with
  | true =>
    rw [hn] at h
    refine wp_cond_true (h.slot (i := 48) rfl) (wp_exit ?_)
    refine h.piece (b := ([1, 7, 41, 42, 43], [])) (s' := B0g ed l (i + 1) u) (s'' := B0g ed l (i + 1) u) (K := 3) (fn := 21) (by kernel_rfl) ?e5 (tab_low rfl) rfl (fun a w h => hQ a w ?_)
    case e5 => simp (decide := true) only [hiw, Try.f21, rid, kl21_2, kl21_9, kl21_13, ↓sBp, sBq, List.all_cons, List.all_nil, List.map_cons, List.map_nil, D.shape, Sh.sub, Sh.size, List.getElem?_cons_zero, List.getElem?_cons_succ, Option.bind_some, Option.bind_none, Option.getD_some, Option.getD_none, V.keysIn, V.kill, V.has, decide_eq_true_eq, beq_iff_eq, bne_iff_ne, ne_eq, Bool.not_eq_true', Bool.and_true, Bool.and_self, Bool.true_and, if_true, if_false, reduceIte, Bool.false_eq_true, decide_true, decide_false, beq_self_eq_true, Bool.not_true, Bool.not_false, true_and, and_true, and_self, List.append_assoc, List.nil_append, List.cons_append, Int.toNat_natCast, ck, Int.cast_ofNat_Int, Int.reduceToNat, bne_self_eq_false, Bool.or_false, Bool.false_or, Bool.false_and, Bool.and_false, Bool.or_true, Bool.true_or]
    rw [cn_nan hi hn]; exact h
  | false =>
    rw [hn] at h
    refine wp_cond_false (h.slot (i := 48) rfl) (wp_skip ?_)
    refine wp_seq ?_
    refine h.piece (b := ([1, 7, 9, 10, 11, 41, 42, 43], [])) (s' := B4g ed l i (l.getD i 0) u) (s'' := B4g ed l i (l.getD i 0) u) (K := 3) (fn := 21) (by kernel_rfl) ?e6 (tab_low rfl) rfl (fun a w h => ?_)
    case e6 => simp (decide := true) only [hlE, Try.f21, rid, kl21_2, kl21_9, kl21_13, ↓sBp, sBq, List.all_cons, List.all_nil, List.map_cons, List.map_nil, D.shape, Sh.sub, Sh.size, List.getElem?_cons_zero, List.getElem?_cons_succ, Option.bind_some, Option.bind_none, Option.getD_some, Option.getD_none, V.keysIn, V.kill, V.has, decide_eq_true_eq, beq_iff_eq, bne_iff_ne, ne_eq, Bool.not_eq_true', Bool.and_true, Bool.and_self, Bool.true_and, if_true, if_false, reduceIte, Bool.false_eq_true, decide_true, decide_false, beq_self_eq_true, Bool.not_true, Bool.not_false, true_and, and_true, and_self, List.append_assoc, List.nil_append, List.cons_append, Int.toNat_natCast, ck, Int.cast_ofNat_Int, Int.reduceToNat, bne_self_eq_false, Bool.or_false, Bool.false_or, Bool.false_and, Bool.and_false, Bool.or_true, Bool.true_or]
    refine wp_seq ?_
    refine h.piece (b := ([1, 7, 10, 41, 42, 43], [])) (s' := C3g ed l i (bin ed (l.getD i 0)) u) (s'' := C3g ed l i (bin ed (l.getD i 0)) u) (K := 3) (fn := 21) (by kernel_rfl) (findg_ev ed l 0 i _ u hE ok) (tab_low rfl) rfl (fun a w h => ?_)
    refine inc_g h (by have := bin_le ed (l.getD i 0); omega) (by have := cn_le ed l i (bin ed (l.getD i 0)); omega) (fun a w h => ?_)
    refine h.piece (b := ([1, 7, 41, 42, 43], [])) (s' := B0g ed l (i + 1) u) (s'' := B0g ed l (i + 1) u) (K := 3) (fn := 21) (by kernel_rfl) ?e7 (tab_low rfl) rfl (fun a w h => hQ a w ?_)
    case e7 => simp (decide := true) only [hiw, Try.f21, rid, kl21_2, kl21_9, kl21_13, ↓sBp, sBq, List.all_cons, List.all_nil, List.map_cons, List.map_nil, D.shape, Sh.sub, Sh.size, List.getElem?_cons_zero, List.getElem?_cons_succ, Option.bind_some, Option.bind_none, Option.getD_some, Option.getD_none, V.keysIn, V.kill, V.has, decide_eq_true_eq, beq_iff_eq, bne_iff_ne, ne_eq, Bool.not_eq_true', Bool.and_true, Bool.and_self, Bool.true_and, if_true, if_false, reduceIte, Bool.false_eq_true, decide_true, decide_false, beq_self_eq_true, Bool.not_true, Bool.not_false, true_and, and_true, and_self, List.append_assoc, List.nil_append, List.cons_append, Int.toNat_natCast, ck, Int.cast_ofNat_Int, Int.reduceToNat, bne_self_eq_false, Bool.or_false, Bool.false_or, Bool.false_and, Bool.and_false, Bool.or_true, Bool.true_or]
    rw [cn_not hi hn]; exact h
theorem roundsg_ok (hl : l.length ≤ 60) (hE : ed.length ≤ 60) (ok : ∀ q, q < ed.length → okB ed q = true) {B : Nat} {W : World} {u : Value} {Q : Exit → Act → World → Prop} (hQ : ∀ a w, RB B W 77 (ci (cn ed l l.length) (ed.length + 1)) u (B1g ed l l.length u false) a w → Q (.exit 2) a w) :
    ∀ (m i : Nat), i + m = l.length → ∀ a w, RB B W 77 (ci (cn ed l i) (ed.length + 1)) u (B0g ed l i u) a w → Code.rounds Try.prog roundg Q (m + 1) a w
  | 0, i, hi, a, w, h => by
    obtain rfl : i = l.length := by omega
    rw [rounds_succ]
    refine wp_seq ?_
    refine h.piece (b := ([1, 7, 41, 42, 43, 44], [])) (s' := B1g ed l l.length u false) (s'' := B1g ed l l.length u false) (K := 3) (fn := 21) (by kernel_rfl) ?e1 (tab_low rfl) rfl (fun a w h => ?_)
    case e1 => simp (decide := true) only [Int.lt_irrefl, Try.f21, rid, kl21_2, kl21_9, kl21_13, ↓sBp, sBq, List.all_cons, List.all_nil, List.map_cons, List.map_nil, D.shape, Sh.sub, Sh.size, List.getElem?_cons_zero, List.getElem?_cons_succ, Option.bind_some, Option.bind_none, Option.getD_some, Option.getD_none, V.keysIn, V.kill, V.has, decide_eq_true_eq, beq_iff_eq, bne_iff_ne, ne_eq, Bool.not_eq_true', Bool.and_true, Bool.and_self, Bool.true_and, if_true, if_false, reduceIte, Bool.false_eq_true, decide_true, decide_false, beq_self_eq_true, Bool.not_true, Bool.not_false, true_and, and_true, and_self, List.append_assoc, List.nil_append, List.cons_append, Int.toNat_natCast, ck, Int.cast_ofNat_Int, Int.reduceToNat, bne_self_eq_false, Bool.or_false, Bool.false_or, Bool.false_and, Bool.and_false, Bool.or_true, Bool.true_or]
    refine wp_seq ?_
    exact wp_cond_false (h.slot (i := 44) rfl) (wp_exit (hQ a w h))
  | m + 1, i, hi, a, w, h => by
    rw [rounds_succ]
    exact roundg_ok ed l (by omega) hl hE ok h fun a w h => roundsg_ok hl hE ok hQ m (i + 1) (by omega) a w h
end
section
variable (ed l : List Nat)
abbrev B0r (i : Nat) (u : Value) : St := ⟨tab .junk [(1, .sl .ro cF (fl ed)), (7, .d (.s u)), (39, .sl .ro cF (fl l)), (40, .d (.s (.int .i64 (l.length)))), (41, .d (.s (.int .i64 (i))))], tab none []⟩
abbrev B1r (i : Nat) (u : Value) (b : Bool) : St := ⟨tab .junk [(1, .sl .ro cF (fl ed)), (7, .d (.s u)), (39, .sl .ro cF (fl l)), (40, .d (.s (.int .i64 (l.length)))), (41, .d (.s (.int .i64 (i)))), (42, .d (.s (.bool (b))))], tab none []⟩
abbrev B2r (i x : Nat) (u : Value) : St := ⟨tab .junk [(1, .sl .ro cF (fl ed)), (7, .d (.s u)), (9, .d (dF x)), (39, .sl .ro cF (fl l)), (40, .d (.s (.int .i64 (l.length)))), (41, .d (.s (.int .i64 (i))))], tab none []⟩
abbrev B3r (i x : Nat) (u : Value) (b : Bool) : St := ⟨tab .junk [(1, .sl .ro cF (fl ed)), (7, .d (.s u)), (9, .d (dF x)), (39, .sl .ro cF (fl l)), (40, .d (.s (.int .i64 (l.length)))), (41, .d (.s (.int .i64 (i)))), (46, .d (.s (.bool (b))))], tab none []⟩
abbrev B4r (i x : Nat) (u : Value) : St := ⟨tab .junk [(1, .sl .ro cF (fl ed)), (7, .d (.s u)), (9, .d (dF x)), (10, .d (.s (.int .i64 (0)))), (39, .sl .ro cF (fl l)), (40, .d (.s (.int .i64 (l.length)))), (41, .d (.s (.int .i64 (i))))], tab none []⟩
noncomputable def roundr : Code := match Try.f22.body with
  | some (.seq _ (.seq _ (.seq _ (.seq (.seq _ (.block _ (.loop c))) _)))) => c
  | _ => .skip
noncomputable def findr : Code := match roundr with
  | .seq _ (.seq _ (.seq (.block _ (.seq _ (.seq _ (.seq _ (.seq c _))))) _)) => c
  | _ => .skip
set_option maxHeartbeats 4000000 in
theorem findr_ev (K i x : Nat) (u : Value) (hE : ed.length ≤ 60) :
    fgt ([1, 7, 10, 39, 40, 41], []) (evC env (evF Try.prog env xf (K + 3)) 22 loopFuel findr (B4r ed l i x u)) = some (.normal, C3r ed l i (bin ed x) u) := by
  have hlE := fl_len ed
  have hle := bin_le ed x
  show fgt _ (evC env (evF Try.prog env xf (K + 3)) 22 loopFuel (match roundr with | .seq _ (.seq _ (.seq (.block _ (.seq _ (.seq _ (.seq _ (.seq c _))))) _)) => c | _ => .skip) (B4r ed l i x u)) = _
  simp (decide := true) only [roundr, Try.f22, rid, kl22_2, kl22_9, kl22_13, ↓sBp, sBq, List.all_cons, List.all_nil, List.map_cons, List.map_nil, D.shape, Sh.sub, Sh.size, List.getElem?_cons_zero, List.getElem?_cons_succ, Option.bind_some, Option.bind_none, Option.getD_some, Option.getD_none, V.keysIn, V.kill, V.has, decide_eq_true_eq, beq_iff_eq, bne_iff_ne, ne_eq, Bool.not_eq_true', Bool.and_true, Bool.and_self, Bool.true_and, if_true, if_false, reduceIte, Bool.false_eq_true, decide_true, decide_false, beq_self_eq_true, Bool.not_true, Bool.not_false, true_and, and_true, and_self, List.append_assoc, List.nil_append, List.cons_append, Int.toNat_natCast, ck, Int.cast_ofNat_Int, Int.reduceToNat, bne_self_eq_false, Bool.or_false, Bool.false_or, Bool.false_and, Bool.and_false, Bool.or_true, Bool.true_or]
  rw [iter_run (S := fun q => ⟨tab .junk [(1, .sl .ro cF (fl ed)), (7, .d (.s u)), (9, .d (dF x)), (10, .d (.s (.int .i64 (q)))), (39, .sl .ro cF (fl l)), (40, .d (.s (.int .i64 (l.length)))), (41, .d (.s (.int .i64 (i))))], tab none [(38, none)]⟩) (n := (bin ed x)) (h0 := ?h0) (hn := ?hn) (step := ?step)]
  case hn => exact lt_loopFuel (by omega)
  case h0 => rfl
  case step =>
    intro q hq
    have g1 : (q : Int) < (ed.length : Int) := by omega
    have n0 := i0 q
    have hg := fl_get ed q (by omega)
    have hc := bin_lo x ed q hq
    have wh := wrap_succ q (by omega)
    simp (decide := true) only [g1, n0, hg, hc, wh, hlE, Try.f22, rid, kl22_2, kl22_9, kl22_13, ↓sBp, sBq, List.all_cons, List.all_nil, List.map_cons, List.map_nil, D.shape, Sh.sub, Sh.size, List.getElem?_cons_zero, List.getElem?_cons_succ, Option.bind_some, Option.bind_none, Option.getD_some, Option.getD_none, V.keysIn, V.kill, V.has, decide_eq_true_eq, beq_iff_eq, bne_iff_ne, ne_eq, Bool.not_eq_true', Bool.and_true, Bool.and_self, Bool.true_and, if_true, if_false, reduceIte, Bool.false_eq_true, decide_true, decide_false, beq_self_eq_true, Bool.not_true, Bool.not_false, true_and, and_true, and_self, List.append_assoc, List.nil_append, List.cons_append, Int.toNat_natCast, ck, Int.cast_ofNat_Int, Int.reduceToNat, bne_self_eq_false, Bool.or_false, Bool.false_or, Bool.false_and, Bool.and_false, Bool.or_true, Bool.true_or]
  rcases bin_hi x ed with h | h
  · have g1 : ¬ ((bin ed x : Nat) : Int) < (ed.length : Int) := by omega
    simp (decide := true) only [g1, hlE, Try.f22, rid, kl22_2, kl22_9, kl22_13, ↓sBp, sBq, List.all_cons, List.all_nil, List.map_cons, List.map_nil, D.shape, Sh.sub, Sh.size, List.getElem?_cons_zero, List.getElem?_cons_succ, Option.bind_some, Option.bind_none, Option.getD_some, Option.getD_none, V.keysIn, V.kill, V.has, decide_eq_true_eq, beq_iff_eq, bne_iff_ne, ne_eq, Bool.not_eq_true', Bool.and_true, Bool.and_self, Bool.true_and, if_true, if_false, reduceIte, Bool.false_eq_true, decide_true, decide_false, beq_self_eq_true, Bool.not_true, Bool.not_false, true_and, and_true, and_self, List.append_assoc, List.nil_append, List.cons_append, Int.toNat_natCast, ck, Int.cast_ofNat_Int, Int.reduceToNat, bne_self_eq_false, Bool.or_false, Bool.false_or, Bool.false_and, Bool.and_false, Bool.or_true, Bool.true_or]
    rfl
  · by_cases hl : bin ed x < ed.length
    · have g1 : ((bin ed x : Nat) : Int) < (ed.length : Int) := by omega
      have n0 := i0 (bin ed x)
      have hg := fl_get ed (bin ed x) hl
      simp (decide := true) only [g1, n0, hg, h, hlE, Try.f22, rid, kl22_2, kl22_9, kl22_13, ↓sBp, sBq, List.all_cons, List.all_nil, List.map_cons, List.map_nil, D.shape, Sh.sub, Sh.size, List.getElem?_cons_zero, List.getElem?_cons_succ, Option.bind_some, Option.bind_none, Option.getD_some, Option.getD_none, V.keysIn, V.kill, V.has, decide_eq_true_eq, beq_iff_eq, bne_iff_ne, ne_eq, Bool.not_eq_true', Bool.and_true, Bool.and_self, Bool.true_and, if_true, if_false, reduceIte, Bool.false_eq_true, decide_true, decide_false, beq_self_eq_true, Bool.not_true, Bool.not_false, true_and, and_true, and_self, List.append_assoc, List.nil_append, List.cons_append, Int.toNat_natCast, ck, Int.cast_ofNat_Int, Int.reduceToNat, bne_self_eq_false, Bool.or_false, Bool.false_or, Bool.false_and, Bool.and_false, Bool.or_true, Bool.true_or]
      rfl
    · have g1 : ¬ ((bin ed x : Nat) : Int) < (ed.length : Int) := by omega
      simp (decide := true) only [g1, hlE, Try.f22, rid, kl22_2, kl22_9, kl22_13, ↓sBp, sBq, List.all_cons, List.all_nil, List.map_cons, List.map_nil, D.shape, Sh.sub, Sh.size, List.getElem?_cons_zero, List.getElem?_cons_succ, Option.bind_some, Option.bind_none, Option.getD_some, Option.getD_none, V.keysIn, V.kill, V.has, decide_eq_true_eq, beq_iff_eq, bne_iff_ne, ne_eq, Bool.not_eq_true', Bool.and_true, Bool.and_self, Bool.true_and, if_true, if_false, reduceIte, Bool.false_eq_true, decide_true, decide_false, beq_self_eq_true, Bool.not_true, Bool.not_false, true_and, and_true, and_self, List.append_assoc, List.nil_append, List.cons_append, Int.toNat_natCast, ck, Int.cast_ofNat_Int, Int.reduceToNat, bne_self_eq_false, Bool.or_false, Bool.false_or, Bool.false_and, Bool.and_false, Bool.or_true, Bool.true_or]
      rfl
theorem roundr_ok {i : Nat} (hi : i < l.length) (hl : l.length ≤ 60) (hE : ed.length ≤ 60) (ok : ∀ q, q < ed.length → okB ed q = true) {B : Nat} {W w : World} {u : Value} {Q : Exit → Act → World → Prop} {a : Act} (h : RB B W 69 (ci (cn ed l i) (ed.length + 1)) u (B0r ed l i u) a w)
    (hQ : ∀ a' w', RB B W 69 (ci (cn ed l (i + 1)) (ed.length + 1)) u (B0r ed l (i + 1) u) a' w' → Q .normal a' w') : roundr.wp Try.prog Q a w := by
  have hi1 : (i : Int) < (l.length : Int) := by omega
  have n0 := i0 i
  have hiw := wrap_succ i (by omega)
  have hg := fl_get l i hi
  have hlE := fl_len ed
  refine wp_seq ?_
  refine h.piece (b := ([1, 7, 39, 40, 41, 42], [])) (s' := B1r ed l i u true) (s'' := B1r ed l i u true) (K := 3) (fn := 22) (by kernel_rfl) ?e1 (tab_low rfl) rfl (fun a w h => ?_)
  case e1 => simp (decide := true) only [hi1, Try.f22, rid, kl22_2, kl22_9, kl22_13, ↓sBp, sBq, List.all_cons, List.all_nil, List.map_cons, List.map_nil, D.shape, Sh.sub, Sh.size, List.getElem?_cons_zero, List.getElem?_cons_succ, Option.bind_some, Option.bind_none, Option.getD_some, Option.getD_none, V.keysIn, V.kill, V.has, decide_eq_true_eq, beq_iff_eq, bne_iff_ne, ne_eq, Bool.not_eq_true', Bool.and_true, Bool.and_self, Bool.true_and, if_true, if_false, reduceIte, Bool.false_eq_true, decide_true, decide_false, beq_self_eq_true, Bool.not_true, Bool.not_false, true_and, and_true, and_self, List.append_assoc, List.nil_append, List.cons_append, Int.toNat_natCast, ck, Int.cast_ofNat_Int, Int.reduceToNat, bne_self_eq_false, Bool.or_false, Bool.false_or, Bool.false_and, Bool.and_false, Bool.or_true, Bool.true_or]
  refine wp_seq ?_
  refine wp_cond_true (h.slot (i := 42) rfl) (wp_skip ?_)
  refine wp_seq ?_
  refine wp_block ?_
  refine wp_seq ?_
  refine h.piece (b := ([1, 7, 9, 39, 40, 41], [])) (s' := B2r ed l i (l.getD i 0) u) (s'' := B2r ed l i (l.getD i 0) u) (K := 3) (fn := 22) (by kernel_rfl) ?e2 (tab_low rfl) rfl (fun a w h => ?_)
  case e2 => simp (decide := true) only [n0, hg, Try.f22, rid, kl22_2, kl22_9, kl22_13, ↓sBp, sBq, List.all_cons, List.all_nil, List.map_cons, List.map_nil, D.shape, Sh.sub, Sh.size, List.getElem?_cons_zero, List.getElem?_cons_succ, Option.bind_some, Option.bind_none, Option.getD_some, Option.getD_none, V.keysIn, V.kill, V.has, decide_eq_true_eq, beq_iff_eq, bne_iff_ne, ne_eq, Bool.not_eq_true', Bool.and_true, Bool.and_self, Bool.true_and, if_true, if_false, reduceIte, Bool.false_eq_true, decide_true, decide_false, beq_self_eq_true, Bool.not_true, Bool.not_false, true_and, and_true, and_self, List.append_assoc, List.nil_append, List.cons_append, Int.toNat_natCast, ck, Int.cast_ofNat_Int, Int.reduceToNat, bne_self_eq_false, Bool.or_false, Bool.false_or, Bool.false_and, Bool.and_false, Bool.or_true, Bool.true_or]
  refine wp_seq ?_
  refine wp_seq ?_
  refine h.piece (b := ([1, 7, 9, 39, 40, 41, 46], [])) (s' := B3r ed l i (l.getD i 0) u (nan (l.getD i 0))) (s'' := B3r ed l i (l.getD i 0) u (nan (l.getD i 0))) (K := 3) (fn := 22) (by kernel_rfl) ?e3 (tab_low rfl) rfl (fun a w h => ?_)
  case e3 => simp (decide := true) only [isnan_ev, Try.f22, rid, kl22_2, kl22_9, kl22_13, ↓sBp, sBq, List.all_cons, List.all_nil, List.map_cons, List.map_nil, D.shape, Sh.sub, Sh.size, List.getElem?_cons_zero, List.getElem?_cons_succ, Option.bind_some, Option.bind_none, Option.getD_some, Option.getD_none, V.keysIn, V.kill, V.has, decide_eq_true_eq, beq_iff_eq, bne_iff_ne, ne_eq, Bool.not_eq_true', Bool.and_true, Bool.and_self, Bool.true_and, if_true, if_false, reduceIte, Bool.false_eq_true, decide_true, decide_false, beq_self_eq_true, Bool.not_true, Bool.not_false, true_and, and_true, and_self, List.append_assoc, List.nil_append, List.cons_append, Int.toNat_natCast, ck, Int.cast_ofNat_Int, Int.reduceToNat, bne_self_eq_false, Bool.or_false, Bool.false_or, Bool.false_and, Bool.and_false, Bool.or_true, Bool.true_or]
  cases hn : nan (l.getD i 0) with
  | true =>
    rw [hn] at h
    refine wp_cond_true (h.slot (i := 46) rfl) (wp_exit ?_)
    refine h.piece (b := ([1, 7, 39, 40, 41], [])) (s' := B0r ed l (i + 1) u) (s'' := B0r ed l (i + 1) u) (K := 3) (fn := 22) (by kernel_rfl) ?e5 (tab_low rfl) rfl (fun a w h => hQ a w ?_)
    case e5 => simp (decide := true) only [hiw, Try.f22, rid, kl22_2, kl22_9, kl22_13, ↓sBp, sBq, List.all_cons, List.all_nil, List.map_cons, List.map_nil, D.shape, Sh.sub, Sh.size, List.getElem?_cons_zero, List.getElem?_cons_succ, Option.bind_some, Option.bind_none, Option.getD_some, Option.getD_none, V.keysIn, V.kill, V.has, decide_eq_true_eq, beq_iff_eq, bne_iff_ne, ne_eq, Bool.not_eq_true', Bool.and_true, Bool.and_self, Bool.true_and, if_true, if_false, reduceIte, Bool.false_eq_true, decide_true, decide_false, beq_self_eq_true, Bool.not_true, Bool.not_false, true_and, and_true, and_self, List.append_assoc, List.nil_append, List.cons_append, Int.toNat_natCast, ck, Int.cast_ofNat_Int, Int.reduceToNat, bne_self_eq_false, Bool.or_false, Bool.false_or, Bool.false_and, Bool.and_false, Bool.or_true, Bool.true_or]
    rw [cn_nan hi hn]; exact h
  | false =>
    rw [hn] at h
    refine wp_cond_false (h.slot (i := 46) rfl) (wp_skip ?_)
    refine wp_seq ?_
    refine h.piece (b := ([1, 7, 9, 10, 39, 40, 41], [])) (s' := B4r ed l i (l.getD i 0) u) (s'' := B4r ed l i (l.getD i 0) u) (K := 3) (fn := 22) (by kernel_rfl) ?e6 (tab_low rfl) rfl (fun a w h => ?_)
    case e6 => simp (decide := true) only [hlE, Try.f22, rid, kl22_2, kl22_9, kl22_13, ↓sBp, sBq, List.all_cons, List.all_nil, List.map_cons, List.map_nil, D.shape, Sh.sub, Sh.size, List.getElem?_cons_zero, List.getElem?_cons_succ, Option.bind_some, Option.bind_none, Option.getD_some, Option.getD_none, V.keysIn, V.kill, V.has, decide_eq_true_eq, beq_iff_eq, bne_iff_ne, ne_eq, Bool.not_eq_true', Bool.and_true, Bool.and_self, Bool.true_and, if_true, if_false, reduceIte, Bool.false_eq_true, decide_true, decide_false, beq_self_eq_true, Bool.not_true, Bool.not_false, true_and, and_true, and_self, List.append_assoc, List.nil_append, List.cons_append, Int.toNat_natCast, ck, Int.cast_ofNat_Int, Int.reduceToNat, bne_self_eq_false, Bool.or_false, Bool.false_or, Bool.false_and, Bool.and_false, Bool.or_true, Bool.true_or]
    refine wp_seq ?_
    refine h.piece (b := ([1, 7, 10, 39, 40, 41], [])) (s' := C3r ed l i (bin ed (l.getD i 0)) u) (s'' := C3r ed l i (bin ed (l.getD i 0)) u) (K := 3) (fn := 22) (by kernel_rfl) (findr_ev ed l 0 i _ u hE) (tab_low rfl) rfl (fun a w h => ?_)
    refine inc_r h (by have := bin_le ed (l.getD i 0); omega) (by have := cn_le ed l i (bin ed (l.getD i 0)); omega) (fun a w h => ?_)
    refine h.piece (b := ([1, 7, 39, 40, 41], [])) (s' := B0r ed l (i + 1) u) (s'' := B0r ed l (i + 1) u) (K := 3) (fn := 22) (by kernel_rfl) ?e7 (tab_low rfl) rfl (fun a w h => hQ a w ?_)
    case e7 => simp (decide := true) only [hiw, Try.f22, rid, kl22_2, kl22_9, kl22_13, ↓sBp, sBq, List.all_cons, List.all_nil, List.map_cons, List.map_nil, D.shape, Sh.sub, Sh.size, List.getElem?_cons_zero, List.getElem?_cons_succ, Option.bind_some, Option.bind_none, Option.getD_some, Option.getD_none, V.keysIn, V.kill, V.has, decide_eq_true_eq, beq_iff_eq, bne_iff_ne, ne_eq, Bool.not_eq_true', Bool.and_true, Bool.and_self, Bool.true_and, if_true, if_false, reduceIte, Bool.false_eq_true, decide_true, decide_false, beq_self_eq_true, Bool.not_true, Bool.not_false, true_and, and_true, and_self, List.append_assoc, List.nil_append, List.cons_append, Int.toNat_natCast, ck, Int.cast_ofNat_Int, Int.reduceToNat, bne_self_eq_false, Bool.or_false, Bool.false_or, Bool.false_and, Bool.and_false, Bool.or_true, Bool.true_or]
    rw [cn_not hi hn]; exact h
theorem roundsr_ok (hl : l.length ≤ 60) (hE : ed.length ≤ 60) (ok : ∀ q, q < ed.length → okB ed q = true) {B : Nat} {W : World} {u : Value} {Q : Exit → Act → World → Prop} (hQ : ∀ a w, RB B W 69 (ci (cn ed l l.length) (ed.length + 1)) u (B1r ed l l.length u false) a w → Q (.exit 2) a w) :
    ∀ (m i : Nat), i + m = l.length → ∀ a w, RB B W 69 (ci (cn ed l i) (ed.length + 1)) u (B0r ed l i u) a w → Code.rounds Try.prog roundr Q (m + 1) a w
  | 0, i, hi, a, w, h => by
    obtain rfl : i = l.length := by omega
    rw [rounds_succ]
    refine wp_seq ?_
    refine h.piece (b := ([1, 7, 39, 40, 41, 42], [])) (s' := B1r ed l l.length u false) (s'' := B1r ed l l.length u false) (K := 3) (fn := 22) (by kernel_rfl) ?e1 (tab_low rfl) rfl (fun a w h => ?_)
    case e1 => simp (decide := true) only [Int.lt_irrefl, Try.f22, rid, kl22_2, kl22_9, kl22_13, ↓sBp, sBq, List.all_cons, List.all_nil, List.map_cons, List.map_nil, D.shape, Sh.sub, Sh.size, List.getElem?_cons_zero, List.getElem?_cons_succ, Option.bind_some, Option.bind_none, Option.getD_some, Option.getD_none, V.keysIn, V.kill, V.has, decide_eq_true_eq, beq_iff_eq, bne_iff_ne, ne_eq, Bool.not_eq_true', Bool.and_true, Bool.and_self, Bool.true_and, if_true, if_false, reduceIte, Bool.false_eq_true, decide_true, decide_false, beq_self_eq_true, Bool.not_true, Bool.not_false, true_and, and_true, and_self, List.append_assoc, List.nil_append, List.cons_append, Int.toNat_natCast, ck, Int.cast_ofNat_Int, Int.reduceToNat, bne_self_eq_false, Bool.or_false, Bool.false_or, Bool.false_and, Bool.and_false, Bool.or_true, Bool.true_or]
    refine wp_seq ?_
    exact wp_cond_false (h.slot (i := 42) rfl) (wp_exit (hQ a w h))
  | m + 1, i, hi, a, w, h => by
    rw [rounds_succ]
    exact roundr_ok ed l (by omega) hl hE ok h fun a w h => roundsr_ok hl hE ok hQ m (i + 1) (by omega) a w h
end
end Go.Proofs.Ytfmbchnejelpkaa.Ev
