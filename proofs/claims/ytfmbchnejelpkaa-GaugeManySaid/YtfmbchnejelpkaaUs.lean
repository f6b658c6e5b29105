/- fingerpostref04.Middle. -/
import Derived.Test.YtfmbchnejelpkaaUq
namespace Go.Proofs.Ytfmbchnejelpkaa.Ev
open Go
attribute [local congr] ob_congr sq_congr cd_congr ite_congr1 iter_congr it1_congr jumps_congr
set_option maxRecDepth 100000
set_option linter.unusedSimpArgs false
set_option linter.unusedVariables false
theorem rsorted_ev (K : Nat) (l : List Nat) (hl : l.length ≤ 60) : evF Try.prog env xs (K+1) 16 [.sl .ro cF (fl l)] = some (.sl .ro cF (fl (rS l l.length))) := evF_ext (srtX_fl l hl)
theorem gbins_ev (K : Nat) (l ed : List Nat) (hl : l.length ≤ 60) (hE : ed.length ≤ 60) : evF Try.prog env xs (K+1) 21 [.sl .ro cF (fl l), .sl .ro cF (fl ed)] = some (.sl .ro cI (bins ed l)) := evF_ext (binX_fl l ed hl hE)
theorem rbins_ev (K : Nat) (l ed : List Nat) (hl : l.length ≤ 60) (hE : ed.length ≤ 60) : evF Try.prog env xs (K+1) 22 [.sl .ro cF (fl l), .sl .ro cF (fl ed)] = some (.sl .ro cI (bins ed l)) := evF_ext (binX_fl l ed hl hE)
theorem rfine_s (k b : Nat) : evF Try.prog env xs (k+3) 32 [.d (dF b)] = some (.d (.s (.bool (fine b)))) := up_s (rfine_ev k b)
theorem rmiddle_ev (d : Nat) (l : List Nat) (hl : l.length ≤ 60) : 
    evF Try.prog env xs (d+4) 18 [.sl .ro cF (fl l)] = some (if (fk l l.length).length = 0 then .tcons (.d (dF 0)) (.tcons (.d (.s (.bool (false)))) .tnil) else .tcons (.d (dF ((rS (fk l l.length) (fk l l.length).length).getD (((fk l l.length).length - 1) / 2) 0))) (.tcons (.d (.s (.bool (true)))) .tnil)) := by
  rw [evF_eq Try.func18 (show Try.f18.body = some _ from rfl) rfl rfl rfl (by show 1 ≤ 31; decide)]
  have hlL := fl_len l
  simp (decide := true) only [hlL, Try.f18, rid, kl18_3, ↓sBp, sBq, List.all_cons, List.all_nil, List.map_cons, List.map_nil, D.shape, Sh.sub, Sh.size, List.getElem?_cons_zero, List.getElem?_cons_succ, Option.bind_some, Option.bind_none, Option.getD_some, Option.getD_none, V.keysIn, V.kill, V.has, decide_eq_true_eq, beq_iff_eq, bne_iff_ne, ne_eq, Bool.not_eq_true', Bool.and_true, Bool.and_self, Bool.true_and, if_true, if_false, reduceIte, Bool.false_eq_true, decide_true, decide_false, beq_self_eq_true, Bool.not_true, Bool.not_false, true_and, and_true, and_self, List.append_assoc, List.nil_append, List.cons_append, Int.toNat_natCast, ck, Int.cast_ofNat_Int, Int.reduceToNat, bne_self_eq_false, Bool.or_false, Bool.false_or, Bool.false_and, Bool.and_false, Bool.or_true, Bool.true_or]
  rw [iter_run (S := fun k => ⟨tab .junk [(4, .sl (.tg 4) cF (fl (fk l k))), (7, .sl .ro cF (fl l)), (8, .d (.s (.int .i64 (l.length)))), (9, .d (.s (.int .i64 (k))))], tab none [(4, some .row), (18, none)]⟩) (n := l.length) (h0 := ?h0) (hn := ?hn) (step := ?step)]
  case hn => exact lt_loopFuel (by omega)
  case h0 => rfl
  case step =>
    intro k hk
    have h1 : (k : Int) < (l.length : Int) := by omega
    have h0 := i0 k
    have hw := wrap_succ k (by omega)
    have hg := fl_get l k hk
    rcases Bool.eq_false_or_eq_true (fine (l.getD k 0)) with h | h
    · have e := fk_yes l hk h
      have c1 := app_ok2 (fl (fk l k)).length ((List.replicate 1 Z22).set 0 (dF (l.getD k 0))).length 8 (by omega) (by have := fk_len l k; rw [fl_len]; simp only [List.length_set, List.length_replicate]; omega)
      have e2 : fl (fk l k) ++ (List.replicate 1 Z22).set 0 (dF (l.getD k 0)) = fl (fk l (k + 1)) := by rw [e]; exact fl_snoc _ _
      simp (decide := true) only [h1, h0, hw, hg, rfine_s, h, c1, e2, Try.f18, rid, kl18_3, ↓sBp, sBq, List.all_cons, List.all_nil, List.map_cons, List.map_nil, D.shape, Sh.sub, Sh.size, List.getElem?_cons_zero, List.getElem?_cons_succ, Option.bind_some, Option.bind_none, Option.getD_some, Option.getD_none, V.keysIn, V.kill, V.has, decide_eq_true_eq, beq_iff_eq, bne_iff_ne, ne_eq, Bool.not_eq_true', Bool.and_true, Bool.and_self, Bool.true_and, if_true, if_false, reduceIte, Bool.false_eq_true, decide_true, decide_false, beq_self_eq_true, Bool.not_true, Bool.not_false, true_and, and_true, and_self, List.append_assoc, List.nil_append, List.cons_append, Int.toNat_natCast, ck, Int.cast_ofNat_Int, Int.reduceToNat, bne_self_eq_false, Bool.or_false, Bool.false_or, Bool.false_and, Bool.and_false, Bool.or_true, Bool.true_or]
    · have e := fk_no l hk h
      simp (decide := true) only [h1, h0, hw, hg, rfine_s, h, e, Try.f18, rid, kl18_3, ↓sBp, sBq, List.all_cons, List.all_nil, List.map_cons, List.map_nil, D.shape, Sh.sub, Sh.size, List.getElem?_cons_zero, List.getElem?_cons_succ, Option.bind_some, Option.bind_none, Option.getD_some, Option.getD_none, V.keysIn, V.kill, V.has, decide_eq_true_eq, beq_iff_eq, bne_iff_ne, ne_eq, Bool.not_eq_true', Bool.and_true, Bool.and_self, Bool.true_and, if_true, if_false, reduceIte, Bool.false_eq_true, decide_true, decide_false, beq_self_eq_true, Bool.not_true, Bool.not_false, true_and, and_true, and_self, List.append_assoc, List.nil_append, List.cons_append, Int.toNat_natCast, ck, Int.cast_ofNat_Int, Int.reduceToNat, bne_self_eq_false, Bool.or_false, Bool.false_or, Bool.false_and, Bool.and_false, Bool.or_true, Bool.true_or]
  have hle := fk_len l l.length
  generalize fk l l.length = F at *
  have hlF := fl_len F
  by_cases hz : F.length = 0
  · have z1 : ((F.length : Int) == 0) = true := by rw [beq_iff_eq]; omega
    rw [if_pos hz]
    simp (decide := true) only [Int.lt_irrefl, hlF, z1, Try.f18, rid, kl18_3, ↓sBp, sBq, List.all_cons, List.all_nil, List.map_cons, List.map_nil, D.shape, Sh.sub, Sh.size, List.getElem?_cons_zero, List.getElem?_cons_succ, Option.bind_some, Option.bind_none, Option.getD_some, Option.getD_none, V.keysIn, V.kill, V.has, decide_eq_true_eq, beq_iff_eq, bne_iff_ne, ne_eq, Bool.not_eq_true', Bool.and_true, Bool.and_self, Bool.true_and, if_true, if_false, reduceIte, Bool.false_eq_true, decide_true, decide_false, beq_self_eq_true, Bool.not_true, Bool.not_false, true_and, and_true, and_self, List.append_assoc, List.nil_append, List.cons_append, Int.toNat_natCast, ck, Int.cast_ofNat_Int, Int.reduceToNat, bne_self_eq_false, Bool.or_false, Bool.false_or, Bool.false_and, Bool.and_false, Bool.or_true, Bool.true_or]
  · have z1 : ((F.length : Int) == 0) = false := by rw [beq_eq_false_iff_ne]; omega
    rw [if_neg hz]
    have hs := rsorted_ev (d + 2) F (by omega)
    have hrl := rS_len F (Nat.le_refl F.length)
    have w1 : IntKind.i64.wrap ((F.length : Int) - 1) = ((F.length - 1 : Nat) : Int) := by rw [IntWalk.i64_in _ (by omega)]; omega
    have w2 : (((F.length - 1 : Nat) : Int)).tdiv 2 = (((F.length - 1) / 2 : Nat) : Int) := by rw [Int.tdiv_eq_ediv_of_nonneg (by omega)]; omega
    have w3 : IntKind.i64.wrap ((((F.length - 1) / 2 : Nat) : Int)) = (((F.length - 1) / 2 : Nat) : Int) := IntWalk.i64_in _ (by omega)
    have n0 := i0 ((F.length - 1) / 2)
    have hg := fl_get (rS F F.length) ((F.length - 1) / 2) (by omega)
    simp (decide := true) only [Int.lt_irrefl, hs, hlF, z1, w1, w2, w3, n0, hg, Try.f18, rid, kl18_3, ↓sBp, sBq, List.all_cons, List.all_nil, List.map_cons, List.map_nil, D.shape, Sh.sub, Sh.size, List.getElem?_cons_zero, List.getElem?_cons_succ, Option.bind_some, Option.bind_none, Option.getD_some, Option.getD_none, V.keysIn, V.kill, V.has, decide_eq_true_eq, beq_iff_eq, bne_iff_ne, ne_eq, Bool.not_eq_true', Bool.and_true, Bool.and_self, Bool.true_and, if_true, if_false, reduceIte, Bool.false_eq_true, decide_true, decide_false, beq_self_eq_true, Bool.not_true, Bool.not_false, true_and, and_true, and_self, List.append_assoc, List.nil_append, List.cons_append, Int.toNat_natCast, ck, Int.cast_ofNat_Int, Int.reduceToNat, bne_self_eq_false, Bool.or_false, Bool.false_or, Bool.false_and, Bool.and_false, Bool.or_true, Bool.true_or]
end Go.Proofs.Ytfmbchnejelpkaa.Ev
