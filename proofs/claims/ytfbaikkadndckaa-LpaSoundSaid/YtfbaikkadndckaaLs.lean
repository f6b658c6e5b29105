/- lpa.anew: the table made anew, round by round. -/
import Derived.Test.YtfbaikkadndckaaLr
namespace Go.Proofs.Ytfbaikkadndckaa.Ev
open Go
attribute [local congr] ob_congr sq_congr cd_congr ite_congr1 iter_congr it1_congr jumps_congr
set_option maxRecDepth 100000
set_option linter.unusedSimpArgs false
set_option linter.unusedVariables false
section
variable (l : LP)
def dnF : Int := rdD l.act l.wait
def aF : Int := endA (dnF l) l.act (listTo (dnF l) 16).length
def wF : Nat → Int := endW (dnF l) l.wait (listTo (dnF l) 16).length
def leF : Nat → Int := resetF (dnF l) l.least
def rF : Rw := settleF l.k (aF l)
def blF : Int := blkF l.k (rF l).n (leF l)
def stF (up : Int) : PhS := stT up (blF l) ⟨aF l, wF l⟩ (listTo (blF l) 16).length
def roundF (up : Int) : LP := ⟨l.k, rF l, leF l, (stF l up).a, (stF l up).w, l.tell, upto (spread1 up (blF l)) l.ask 16, l.reply⟩
theorem roundL_ev (K : Nat) (up : Int) : evF Try.prog env xt (K+7) 170 [.d (lpD l), .d (.s (.int .i64 (up)))] = some (.tcons (.d (lpD (roundF l up))) (.tcons (.d (.s (.bool (blF l != 0)))) .tnil)) :=
  round_ev l.k.self l.k.up l.k.c l.k.tD l.k.tP l.r.d l.r.p l.r.n l.least l.act l.wait l.tell l.ask l.reply K up (dnF l) (aF l) (wF l) (leF l) (rF l) (blF l) (stF l up) _ rfl rfl rfl rfl rfl rfl rfl rfl
end
def rdTo (l : LP) (up : Int) (n : Nat) : LP := upto (fun _ l => roundF l up) l n
theorem rdTo_succ (l : LP) (up : Int) (n : Nat) : rdTo l up (n + 1) = roundF (rdTo l up n) up := rfl
theorem rdTo_k (l : LP) (up : Int) : ∀ n, (rdTo l up n).k = l.k ∧ (rdTo l up n).tell = l.tell ∧ (rdTo l up n).reply = l.reply
  | 0 => ⟨rfl, rfl, rfl⟩
  | n + 1 => by rw [rdTo_succ]; exact rdTo_k l up n
theorem anN_ex (l : LP) (up : Int) : ∃ k, k < 48 ∧ (blF (rdTo l up k) = 0 ∨ k = 47) ∧ ∀ i, i < k → ¬ (blF (rdTo l up i) = 0 ∨ i = 47) := first_of ⟨47, by omega, Or.inr rfl⟩
noncomputable def anN (l : LP) (up : Int) : Nat := Classical.choose (anN_ex l up)
theorem anN_ok (l : LP) (up : Int) : anN l up < 48 ∧ (blF (rdTo l up (anN l up)) = 0 ∨ anN l up = 47) ∧ ∀ i, i < anN l up → ¬ (blF (rdTo l up i) = 0 ∨ i = 47) := Classical.choose_spec (anN_ex l up)
noncomputable def lastF (l : LP) : LP := rdTo l (nb l.k.up) (anN l (nb l.k.up) + 1)
def finF (l m : LP) : LP := { m with least := lowF m.least m.r.d, tell := upto (spread1 (nb l.k.up) (chgF l.r.d l.r.p m.r.d m.r.p)) m.tell 16 }
noncomputable def anewF (l : LP) : LP := finF l (lastF l)
set_option maxHeartbeats 8000000 in
theorem anew_ev (K : Nat) (l : LP) : evF Try.prog env xt (K+8) 150 [.d (lpD l)] = some (.d (lpD (anewF l))) := by
  rw [evF_eq Try.func150 (show Try.f150.body = some _ from rfl) rfl rfl (by show 1 ≤ 40; decide)]
  obtain ⟨hN, hend, hfirst⟩ := anN_ok l (nb l.k.up)
  have hl : lastF l = rdTo l (nb l.k.up) (anN l (nb l.k.up) + 1) := rfl
  generalize anN l (nb l.k.up) = N at hN hend hfirst hl
  have en := neigh_ev l.k.self l.k.up l.k.c l.k.tD l.k.tP l.r.d l.r.p l.r.n l.least l.act l.wait l.tell l.ask l.reply (K + 6)
  generalize hup : nb l.k.up = u at hend hfirst hl en
  have e0 := roundL_ev l K u
  have w01 : IntKind.i64.wrap (0 + 1) = 1 := rfl
  have fin : ∀ m : LP, m.k = l.k → m.tell = l.tell → m.reply = l.reply → evF Try.prog env xt (K+7) 26 [.d (arrU m.least), .d (rowsD m.r.d m.r.p m.r.n)] = some (.d (arrU (finF l m).least)) ∧ evF Try.prog env xt (K+7) 172 [.d (rowsD l.r.d l.r.p l.r.n), .d (rowsD m.r.d m.r.p m.r.n)] = some (.d (.s (.int .i64 (chgF l.r.d l.r.p m.r.d m.r.p)))) ∧
      evF Try.prog env xt (K+7) 171 [.d (arr16 m.tell), .d (.s (.int .i64 (u))), .d (.s (.int .i64 (chgF l.r.d l.r.p m.r.d m.r.p)))] = some (.d (arr16 (finF l m).tell)) := fun m _ _ _ =>
    ⟨lower_ev (K+5) m.least m.r.d m.r.p m.r.n, changed_ev (K+4) _ _ _ _ _ _, by subst hup; exact spread_ev (K+4) m.tell _ _⟩
  by_cases hz : N = 0
  · subst hz
    have hb : (blF l != 0) = false := by
      rcases hend with h | h
      · have h : blF l = 0 := h
        rw [h]; rfl
      · omega
    have hl : lastF l = roundF l u := hl
    obtain ⟨f1, f2, f3⟩ := fin (roundF l u) rfl rfl rfl
    have ha : anewF l = finF l (roundF l u) := by unfold anewF; rw [hl]
    rw [ha]
    generalize roundF l u = m at e0 f1 f2 f3
    simp (decide := true) only [en, e0, hb, f1, f2, f3, Try.f150, rid, dp150_1, dp150_7, gl150_0, ↓sBp, sBq, List.all_cons, List.all_nil, List.map_cons, List.map_nil, D.shape, Sh.sub, Sh.size, List.getElem?_cons_zero, List.getElem?_cons_succ, Option.bind_some, Option.bind_none, Option.getD_some, Option.getD_none, V.keysIn, V.kill, V.has, decide_eq_true_eq, beq_iff_eq, bne_iff_ne, ne_eq, Bool.not_eq_true', Bool.and_true, Bool.and_self, Bool.true_and, if_true, if_false, reduceIte, Bool.false_eq_true, decide_true, decide_false, beq_self_eq_true, Bool.not_true, Bool.not_false, true_and, and_true, and_self, List.append_assoc, List.nil_append, List.cons_append, Int.toNat_natCast, ck, Int.cast_ofNat_Int, Int.reduceToNat, bne_self_eq_false, Bool.or_false, Bool.false_or, Bool.false_and, Bool.and_false, Bool.or_true, Bool.true_or]
    rfl
  · have hb : (blF l != 0) = true := by
      have := hfirst 0 (by omega)
      have h : ¬ blF l = 0 := fun e => this (Or.inl e)
      simpa using h
    simp (decide := true) only [en, e0, hb, w01, Try.f150, rid, dp150_1, dp150_7, gl150_0, ↓sBp, sBq, List.all_cons, List.all_nil, List.map_cons, List.map_nil, D.shape, Sh.sub, Sh.size, List.getElem?_cons_zero, List.getElem?_cons_succ, Option.bind_some, Option.bind_none, Option.getD_some, Option.getD_none, V.keysIn, V.kill, V.has, decide_eq_true_eq, beq_iff_eq, bne_iff_ne, ne_eq, Bool.not_eq_true', Bool.and_true, Bool.and_self, Bool.true_and, if_true, if_false, reduceIte, Bool.false_eq_true, decide_true, decide_false, beq_self_eq_true, Bool.not_true, Bool.not_false, true_and, and_true, and_self, List.append_assoc, List.nil_append, List.cons_append, Int.toNat_natCast, ck, Int.cast_ofNat_Int, Int.reduceToNat, bne_self_eq_false, Bool.or_false, Bool.false_or, Bool.false_and, Bool.and_false, Bool.or_true, Bool.true_or]
    rw [jumps_run (l := 0) (S := fun t => ⟨tab .junk [(1, .ptr 1 (shL) [] (shL)), (2, .ptr 2 (shL) [] (shL)), (3, .ptr 3 (shRs) [] (shRs)), (4, .d (.s (.int .i64 (u)))), (5, .d (.s (.int .i64 ((t + 1 : Nat)))))], tab none [(1, some (.box (lpD (rdTo l u (t + 1))))), (2, some (.box (Z101))), (3, some (.box (rowsD l.r.d l.r.p l.r.n))), (10, none)]⟩) (n := N - 1) (h0 := ?h0) (hl := rfl) (hn := by omega) (step := ?step)]
    case h0 => rfl
    case step =>
      intro t ht
      have e1 := roundL_ev (rdTo l u (t + 1)) K u
      have hb1 : (blF (rdTo l u (t + 1)) != 0) = true := by
        have := hfirst (t + 1) (by omega)
        have h : ¬ blF (rdTo l u (t + 1)) = 0 := fun e => this (Or.inl e)
        simpa using h
      have es : rdTo l u (t + 1 + 1) = roundF (rdTo l u (t + 1)) u := rfl
      rw [es]
      generalize rdTo l u (t + 1) = m at e1 hb1
      generalize roundF m u = m' at e1
      have hw := wrap_succ (t + 1) (by omega)
      have hlt : ((t + 1 + 1 : Nat) : Int) < 48 := by omega
      simp (decide := true) only [e1, hb1, hw, hlt, Try.f150, rid, dp150_1, dp150_7, gl150_0, ↓sBp, sBq, List.all_cons, List.all_nil, List.map_cons, List.map_nil, D.shape, Sh.sub, Sh.size, List.getElem?_cons_zero, List.getElem?_cons_succ, Option.bind_some, Option.bind_none, Option.getD_some, Option.getD_none, V.keysIn, V.kill, V.has, decide_eq_true_eq, beq_iff_eq, bne_iff_ne, ne_eq, Bool.not_eq_true', Bool.and_true, Bool.and_self, Bool.true_and, if_true, if_false, reduceIte, Bool.false_eq_true, decide_true, decide_false, beq_self_eq_true, Bool.not_true, Bool.not_false, true_and, and_true, and_self, List.append_assoc, List.nil_append, List.cons_append, Int.toNat_natCast, ck, Int.cast_ofNat_Int, Int.reduceToNat, bne_self_eq_false, Bool.or_false, Bool.false_or, Bool.false_and, Bool.and_false, Bool.or_true, Bool.true_or]
    have hNN : N - 1 + 1 = N := by omega
    rw [hNN]
    have e1 := roundL_ev (rdTo l u N) K u
    obtain ⟨k1, k2, k3⟩ := rdTo_k l u (N + 1)
    obtain ⟨f1, f2, f3⟩ := fin (rdTo l u (N + 1)) k1 k2 k3
    have es : roundF (rdTo l u N) u = rdTo l u (N + 1) := rfl
    rw [es] at e1
    have ha : anewF l = finF l (rdTo l u (N + 1)) := by unfold anewF; rw [hl]
    rw [ha]
    generalize rdTo l u (N + 1) = m at e1 f1 f2 f3
    have hw := wrap_succ N (by omega)
    rcases hend with h | h
    · have hb1 : (blF (rdTo l u N) != 0) = false := by rw [h]; rfl
      generalize rdTo l u N = m0 at e1 hb1
      simp (decide := true) only [e1, hb1, hw, f1, f2, f3, Try.f150, rid, dp150_1, dp150_7, gl150_0, ↓sBp, sBq, List.all_cons, List.all_nil, List.map_cons, List.map_nil, D.shape, Sh.sub, Sh.size, List.getElem?_cons_zero, List.getElem?_cons_succ, Option.bind_some, Option.bind_none, Option.getD_some, Option.getD_none, V.keysIn, V.kill, V.has, decide_eq_true_eq, beq_iff_eq, bne_iff_ne, ne_eq, Bool.not_eq_true', Bool.and_true, Bool.and_self, Bool.true_and, if_true, if_false, reduceIte, Bool.false_eq_true, decide_true, decide_false, beq_self_eq_true, Bool.not_true, Bool.not_false, true_and, and_true, and_self, List.append_assoc, List.nil_append, List.cons_append, Int.toNat_natCast, ck, Int.cast_ofNat_Int, Int.reduceToNat, bne_self_eq_false, Bool.or_false, Bool.false_or, Bool.false_and, Bool.and_false, Bool.or_true, Bool.true_or]
      rfl
    · have hlt : ¬ ((N + 1 : Nat) : Int) < 48 := by omega
      rcases Bool.eq_false_or_eq_true (blF (rdTo l u N) != 0) with hb1 | hb1
      · generalize rdTo l u N = m0 at e1 hb1
        simp (decide := true) only [e1, hb1, hw, hlt, f1, f2, f3, Try.f150, rid, dp150_1, dp150_7, gl150_0, ↓sBp, sBq, List.all_cons, List.all_nil, List.map_cons, List.map_nil, D.shape, Sh.sub, Sh.size, List.getElem?_cons_zero, List.getElem?_cons_succ, Option.bind_some, Option.bind_none, Option.getD_some, Option.getD_none, V.keysIn, V.kill, V.has, decide_eq_true_eq, beq_iff_eq, bne_iff_ne, ne_eq, Bool.not_eq_true', Bool.and_true, Bool.and_self, Bool.true_and, if_true, if_false, reduceIte, Bool.false_eq_true, decide_true, decide_false, beq_self_eq_true, Bool.not_true, Bool.not_false, true_and, and_true, and_self, List.append_assoc, List.nil_append, List.cons_append, Int.toNat_natCast, ck, Int.cast_ofNat_Int, Int.reduceToNat, bne_self_eq_false, Bool.or_false, Bool.false_or, Bool.false_and, Bool.and_false, Bool.or_true, Bool.true_or]
        rfl
      · generalize rdTo l u N = m0 at e1 hb1
        simp (decide := true) only [e1, hb1, hw, hlt, f1, f2, f3, Try.f150, rid, dp150_1, dp150_7, gl150_0, ↓sBp, sBq, List.all_cons, List.all_nil, List.map_cons, List.map_nil, D.shape, Sh.sub, Sh.size, List.getElem?_cons_zero, List.getElem?_cons_succ, Option.bind_some, Option.bind_none, Option.getD_some, Option.getD_none, V.keysIn, V.kill, V.has, decide_eq_true_eq, beq_iff_eq, bne_iff_ne, ne_eq, Bool.not_eq_true', Bool.and_true, Bool.and_self, Bool.true_and, if_true, if_false, reduceIte, Bool.false_eq_true, decide_true, decide_false, beq_self_eq_true, Bool.not_true, Bool.not_false, true_and, and_true, and_self, List.append_assoc, List.nil_append, List.cons_append, Int.toNat_natCast, ck, Int.cast_ofNat_Int, Int.reduceToNat, bne_self_eq_false, Bool.or_false, Bool.false_or, Bool.false_and, Bool.and_false, Bool.or_true, Bool.true_or]
        rfl
end Go.Proofs.Ytfbaikkadndckaa.Ev
