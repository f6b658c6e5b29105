/- settle.Second, Only, and the document's: what they compute. -/
import Derived.Test.YtfbaikkadndckaaWt
namespace Go.Proofs.Ytfbaikkadndckaa.Ev
open Go
attribute [local congr] ob_congr sq_congr cd_congr ite_congr1 iter_congr it1_congr jumps_congr
set_option maxRecDepth 100000
set_option linter.unusedSimpArgs false
set_option linter.unusedVariables false
theorem xw_ok : ∀ f l r, xw f l = some r → CallOK Try.prog f l r := by
  intro f l r h
  unfold xw at h
  cases h1 : wyB f with
  | false => rw [h1] at h; exact xt_ok f l r h
  | true =>
    rw [h1] at h
    simp only at h
    unfold wyRes at h
    split at h
    · rename_i x j
      by_cases hs : x.shape = shK
      · rw [if_pos hs] at h
        cases h
        have key : ∀ (w : World) (vs : List Value), RA w [.d x, .d (.s (.int .i64 j))] vs → x = knV (knOf x) := fun w vs hra => by
          cases vs with
          | nil => exact hra.elim
          | cons u us => exact kn_of hs hra.1.1
        unfold wyB at h1
        rw [Bool.or_eq_true, beq_iff_eq, beq_iff_eq] at h1
        rcases h1 with rfl | rfl
        · refine ⟨waysFn, fun w vs hra => ?_⟩
          have e := key w vs hra
          rw [e] at hra
          exact (ways_ok (knOf x) j).run w vs hra
        · refine ⟨rwaysFn, fun w vs hra => ?_⟩
          have e := key w vs hra
          rw [e] at hra
          exact (rways_ok (knOf x) j).run w vs hra
      · rw [if_neg hs] at h; cases h
    · cases h
theorem xw_xt : ∀ g l r, xt g l = some r → xw g l = some r := by
  intro g l r h
  unfold xw
  cases h1 : wyB g with
  | false => exact h
  | true =>
    unfold wyB at h1
    rw [Bool.or_eq_true, beq_iff_eq, beq_iff_eq] at h1
    rcases h1 with rfl | rfl
    · have e : xt 53 l = none := rfl
      rw [e] at h; cases h
    · have e : xt 54 l = none := rfl
      rw [e] at h; cases h
theorem xw_new : ∀ g l, xt g l = none → xw g l ≠ none → env.ok g = false := by
  intro g l h h2
  unfold xw at h2
  cases h1 : wyB g with
  | false => rw [h1] at h2; exact absurd h h2
  | true =>
    unfold wyB at h1
    rw [Bool.or_eq_true, beq_iff_eq, beq_iff_eq] at h1
    rcases h1 with rfl | rfl <;> rfl
theorem up_w {n f : Nat} {l : List V} {r : V} (h : evF Try.prog env xt n f l = some r) : evF Try.prog env xw n f l = some r := evF_mono xw_xt xw_new n f l r h
theorem evF_ext {ext : Nat → List V → Option V} {n f : Nat} {l : List V} {r : V} (h : ext f l = some r) : evF Try.prog env ext (n + 1) f l = some r := by
  simp only [evF, h]
theorem ways_ev (K : Nat) (self up : Int) (c : Nat → Int) (tD tP : Nat → Nat → Int) (j : Int) : evF Try.prog env xw (K+1) 53 [.d (knD self up c tD tP), .d (.s (.int .i64 (j)))] = some (.sl .ro shW (ws (wList ⟨self, up, c, tD, tP⟩ j))) := evF_ext rfl
theorem rways_ev (K : Nat) (self up : Int) (c : Nat → Int) (tD tP : Nat → Nat → Int) (j : Int) : evF Try.prog env xw (K+1) 54 [.d (knD self up c tD tP), .d (.s (.int .i64 (j)))] = some (.sl .ro shW (ws (wList ⟨self, up, c, tD, tP⟩ j))) := evF_ext rfl
theorem with_evw (K : Nat) (s n : Int) : evF Try.prog env xw (K+2) 78 [.d (.s (.int .i64 (s))), .d (.s (.int .i64 (n)))] = some (.d (.s (.int .i64 (withN s n)))) := up_w (with_ev K s n)
theorem rwith_evw (K : Nat) (s n : Int) : evF Try.prog env xw (K+2) 89 [.d (.s (.int .i64 (s))), .d (.s (.int .i64 (n)))] = some (.d (.s (.int .i64 (withN s n)))) := up_w (rwith_ev K s n)
def secF (l : List (Int × Int)) : Int × Int := l.getD 1 (0, 0)
theorem z81 : Z81 = wayD 0 0 := nr rfl
theorem second_ev (K : Nat) (self up : Int) (c : Nat → Int) (tD tP : Nat → Nat → Int) (j : Int) : evF Try.prog env xw (K+2) 55 [.d (knD self up c tD tP), .d (.s (.int .i64 (j)))] =
    some (.tcons (.d (wayD (secF (wList ⟨self, up, c, tD, tP⟩ j)).1 (secF (wList ⟨self, up, c, tD, tP⟩ j)).2)) (.tcons (.d (.s (.bool (decide (2 ≤ (wList ⟨self, up, c, tD, tP⟩ j).length))))) .tnil)) := by
  rw [evF_eq Try.func55 (show Try.f55.body = some _ from rfl) rfl rfl (by show 2 ≤ 17; decide)]
  have e := ways_ev K self up c tD tP j
  generalize wList ⟨self, up, c, tD, tP⟩ j = l at e ⊢
  have hl := ws_len' l
  by_cases h : 2 ≤ l.length
  · have h1 : ¬ ((ws l).length : Int) < 2 := by omega
    have hg : (ws l)[1]? = some (wayD (secF l).1 (secF l).2) := by simp [secF, List.getD, List.getElem?_eq_getElem (show 1 < l.length by omega)]
    have h1' : ((ws l).length < 2) = False := by simp only [eq_iff_iff, iff_false]; omega
    simp (decide := true) only [e, h1, h, hg, Int.reduceToNat, Int.toNat_one, Try.f55, rid, ↓sBp, sBq, List.all_cons, List.all_nil, List.map_cons, List.map_nil, D.shape, Sh.sub, Sh.size, List.getElem?_cons_zero, List.getElem?_cons_succ, Option.bind_some, Option.bind_none, Option.getD_some, Option.getD_none, V.keysIn, V.kill, V.has, decide_eq_true_eq, beq_iff_eq, bne_iff_ne, ne_eq, Bool.not_eq_true', Bool.and_true, Bool.and_self, Bool.true_and, if_true, if_false, reduceIte, Bool.false_eq_true, decide_true, decide_false, beq_self_eq_true, Bool.not_true, Bool.not_false, true_and, and_true, and_self, List.append_assoc, List.nil_append, List.cons_append, Int.toNat_natCast, ck, Int.cast_ofNat_Int, Int.reduceToNat, bne_self_eq_false, Bool.or_false, Bool.false_or, Bool.false_and, Bool.and_false, Bool.or_true, Bool.true_or]
  · have h1 : ((ws l).length : Int) < 2 := by omega
    have hs : secF l = (0, 0) := by simp [secF, List.getD, List.getElem?_eq_none (show l.length ≤ 1 by omega)]
    simp (decide := true) only [e, h1, h, hs, z81, Try.f55, rid, ↓sBp, sBq, List.all_cons, List.all_nil, List.map_cons, List.map_nil, D.shape, Sh.sub, Sh.size, List.getElem?_cons_zero, List.getElem?_cons_succ, Option.bind_some, Option.bind_none, Option.getD_some, Option.getD_none, V.keysIn, V.kill, V.has, decide_eq_true_eq, beq_iff_eq, bne_iff_ne, ne_eq, Bool.not_eq_true', Bool.and_true, Bool.and_self, Bool.true_and, if_true, if_false, reduceIte, Bool.false_eq_true, decide_true, decide_false, beq_self_eq_true, Bool.not_true, Bool.not_false, true_and, and_true, and_self, List.append_assoc, List.nil_append, List.cons_append, Int.toNat_natCast, ck, Int.cast_ofNat_Int, Int.reduceToNat, bne_self_eq_false, Bool.or_false, Bool.false_or, Bool.false_and, Bool.and_false, Bool.or_true, Bool.true_or]
theorem rsecond_ev (K : Nat) (self up : Int) (c : Nat → Int) (tD tP : Nat → Nat → Int) (j : Int) : evF Try.prog env xw (K+2) 56 [.d (knD self up c tD tP), .d (.s (.int .i64 (j)))] =
    some (.tcons (.d (wayD (secF (wList ⟨self, up, c, tD, tP⟩ j)).1 (secF (wList ⟨self, up, c, tD, tP⟩ j)).2)) (.tcons (.d (.s (.bool (decide (2 ≤ (wList ⟨self, up, c, tD, tP⟩ j).length))))) .tnil)) := by
  rw [evF_eq Try.func56 (show Try.f56.body = some _ from rfl) rfl rfl (by show 2 ≤ 17; decide)]
  have e := rways_ev K self up c tD tP j
  generalize wList ⟨self, up, c, tD, tP⟩ j = l at e ⊢
  have hl := ws_len' l
  by_cases h : 2 ≤ l.length
  · have h1 : ¬ ((ws l).length : Int) < 2 := by omega
    have hg : (ws l)[1]? = some (wayD (secF l).1 (secF l).2) := by simp [secF, List.getD, List.getElem?_eq_getElem (show 1 < l.length by omega)]
    have h1' : ((ws l).length < 2) = False := by simp only [eq_iff_iff, iff_false]; omega
    simp (decide := true) only [e, h1, h, hg, Int.reduceToNat, Int.toNat_one, Try.f56, rid, ↓sBp, sBq, List.all_cons, List.all_nil, List.map_cons, List.map_nil, D.shape, Sh.sub, Sh.size, List.getElem?_cons_zero, List.getElem?_cons_succ, Option.bind_some, Option.bind_none, Option.getD_some, Option.getD_none, V.keysIn, V.kill, V.has, decide_eq_true_eq, beq_iff_eq, bne_iff_ne, ne_eq, Bool.not_eq_true', Bool.and_true, Bool.and_self, Bool.true_and, if_true, if_false, reduceIte, Bool.false_eq_true, decide_true, decide_false, beq_self_eq_true, Bool.not_true, Bool.not_false, true_and, and_true, and_self, List.append_assoc, List.nil_append, List.cons_append, Int.toNat_natCast, ck, Int.cast_ofNat_Int, Int.reduceToNat, bne_self_eq_false, Bool.or_false, Bool.false_or, Bool.false_and, Bool.and_false, Bool.or_true, Bool.true_or]
  · have h1 : ((ws l).length : Int) < 2 := by omega
    have hs : secF l = (0, 0) := by simp [secF, List.getD, List.getElem?_eq_none (show l.length ≤ 1 by omega)]
    simp (decide := true) only [e, h1, h, hs, z81, Try.f56, rid, ↓sBp, sBq, List.all_cons, List.all_nil, List.map_cons, List.map_nil, D.shape, Sh.sub, Sh.size, List.getElem?_cons_zero, List.getElem?_cons_succ, Option.bind_some, Option.bind_none, Option.getD_some, Option.getD_none, V.keysIn, V.kill, V.has, decide_eq_true_eq, beq_iff_eq, bne_iff_ne, ne_eq, Bool.not_eq_true', Bool.and_true, Bool.and_self, Bool.true_and, if_true, if_false, reduceIte, Bool.false_eq_true, decide_true, decide_false, beq_self_eq_true, Bool.not_true, Bool.not_false, true_and, and_true, and_self, List.append_assoc, List.nil_append, List.cons_append, Int.toNat_natCast, ck, Int.cast_ofNat_Int, Int.reduceToNat, bne_self_eq_false, Bool.or_false, Bool.false_or, Bool.false_and, Bool.and_false, Bool.or_true, Bool.true_or]
def onlyTo (k : Kn) (i : Nat) : Int := upto (fun i s => if (wList k i).length = 1 then withN s i else s) 0 i
theorem onlyTo_succ (k : Kn) (i : Nat) : onlyTo k (i + 1) = if (wList k i).length = 1 then withN (onlyTo k i) i else onlyTo k i := by simp only [onlyTo, upto]
theorem only_ev (K : Nat) (self up : Int) (c : Nat → Int) (tD tP : Nat → Nat → Int) : evF Try.prog env xw (K+3) 57 [.d (knD self up c tD tP)] = some (.d (.s (.int .i64 (onlyTo ⟨self, up, c, tD, tP⟩ 16)))) := by
  rw [evF_eq Try.func57 (show Try.f57.body = some _ from rfl) rfl rfl (by show 1 ≤ 18; decide)]
  simp (decide := true) only [Try.f57, rid, kl57_3, ↓sBp, sBq, List.all_cons, List.all_nil, List.map_cons, List.map_nil, D.shape, Sh.sub, Sh.size, List.getElem?_cons_zero, List.getElem?_cons_succ, Option.bind_some, Option.bind_none, Option.getD_some, Option.getD_none, V.keysIn, V.kill, V.has, decide_eq_true_eq, beq_iff_eq, bne_iff_ne, ne_eq, Bool.not_eq_true', Bool.and_true, Bool.and_self, Bool.true_and, if_true, if_false, reduceIte, Bool.false_eq_true, decide_true, decide_false, beq_self_eq_true, Bool.not_true, Bool.not_false, true_and, and_true, and_self, List.append_assoc, List.nil_append, List.cons_append, Int.toNat_natCast, ck, Int.cast_ofNat_Int, Int.reduceToNat, bne_self_eq_false, Bool.or_false, Bool.false_or, Bool.false_and, Bool.and_false, Bool.or_true, Bool.true_or]
  rw [iter_run (S := fun i => ⟨tab .junk [(1, .ptr 1 (shK) [] (shK)), (3, .d (.s (.int .i64 (onlyTo ⟨self, up, c, tD, tP⟩ i)))), (5, .d (.s (.int .i64 (i))))], tab none [(1, some (.box (knD self up c tD tP))), (15, none)]⟩) (n := 16) (h0 := ?h0) (hn := lt_loopFuel (by decide)) (step := ?step)]
  case h0 => rfl
  case step =>
    intro k hk
    have hk1 : (k : Int) < 16 := by omega
    have hk0 : (0 : Int) ≤ k := by omega
    have hkw := wrap_succ k (by omega)
    have hs := onlyTo_succ ⟨self, up, c, tD, tP⟩ k
    have e := ways_ev (K+1) self up c tD tP k
    generalize wList ⟨self, up, c, tD, tP⟩ k = l at e hs
    have hl := ws_len' l
    by_cases h : l.length = 1
    · have h1 : (((ws l).length : Int) == 1) = true := by rw [hl, h]; rfl
      rw [if_pos h] at hs
      simp (decide := true) only [hk1, hk0, hkw, e, h1, hs, with_evw, Try.f57, rid, kl57_3, ↓sBp, sBq, List.all_cons, List.all_nil, List.map_cons, List.map_nil, D.shape, Sh.sub, Sh.size, List.getElem?_cons_zero, List.getElem?_cons_succ, Option.bind_some, Option.bind_none, Option.getD_some, Option.getD_none, V.keysIn, V.kill, V.has, decide_eq_true_eq, beq_iff_eq, bne_iff_ne, ne_eq, Bool.not_eq_true', Bool.and_true, Bool.and_self, Bool.true_and, if_true, if_false, reduceIte, Bool.false_eq_true, decide_true, decide_false, beq_self_eq_true, Bool.not_true, Bool.not_false, true_and, and_true, and_self, List.append_assoc, List.nil_append, List.cons_append, Int.toNat_natCast, ck, Int.cast_ofNat_Int, Int.reduceToNat, bne_self_eq_false, Bool.or_false, Bool.false_or, Bool.false_and, Bool.and_false, Bool.or_true, Bool.true_or]
    · have h1 : (((ws l).length : Int) == 1) = false := by rw [hl, beq_eq_false_iff_ne]; omega
      rw [if_neg h] at hs
      simp (decide := true) only [hk1, hk0, hkw, e, h1, hs, Try.f57, rid, kl57_3, ↓sBp, sBq, List.all_cons, List.all_nil, List.map_cons, List.map_nil, D.shape, Sh.sub, Sh.size, List.getElem?_cons_zero, List.getElem?_cons_succ, Option.bind_some, Option.bind_none, Option.getD_some, Option.getD_none, V.keysIn, V.kill, V.has, decide_eq_true_eq, beq_iff_eq, bne_iff_ne, ne_eq, Bool.not_eq_true', Bool.and_true, Bool.and_self, Bool.true_and, if_true, if_false, reduceIte, Bool.false_eq_true, decide_true, decide_false, beq_self_eq_true, Bool.not_true, Bool.not_false, true_and, and_true, and_self, List.append_assoc, List.nil_append, List.cons_append, Int.toNat_natCast, ck, Int.cast_ofNat_Int, Int.reduceToNat, bne_self_eq_false, Bool.or_false, Bool.false_or, Bool.false_and, Bool.and_false, Bool.or_true, Bool.true_or]
  simp (decide := true) only [Try.f57, rid, kl57_3, ↓sBp, sBq, List.all_cons, List.all_nil, List.map_cons, List.map_nil, D.shape, Sh.sub, Sh.size, List.getElem?_cons_zero, List.getElem?_cons_succ, Option.bind_some, Option.bind_none, Option.getD_some, Option.getD_none, V.keysIn, V.kill, V.has, decide_eq_true_eq, beq_iff_eq, bne_iff_ne, ne_eq, Bool.not_eq_true', Bool.and_true, Bool.and_self, Bool.true_and, if_true, if_false, reduceIte, Bool.false_eq_true, decide_true, decide_false, beq_self_eq_true, Bool.not_true, Bool.not_false, true_and, and_true, and_self, List.append_assoc, List.nil_append, List.cons_append, Int.toNat_natCast, ck, Int.cast_ofNat_Int, Int.reduceToNat, bne_self_eq_false, Bool.or_false, Bool.false_or, Bool.false_and, Bool.and_false, Bool.or_true, Bool.true_or]
theorem ronly_ev (K : Nat) (self up : Int) (c : Nat → Int) (tD tP : Nat → Nat → Int) : evF Try.prog env xw (K+3) 58 [.d (knD self up c tD tP)] = some (.d (.s (.int .i64 (onlyTo ⟨self, up, c, tD, tP⟩ 16)))) := by
  rw [evF_eq Try.func58 (show Try.f58.body = some _ from rfl) rfl rfl (by show 1 ≤ 18; decide)]
  simp (decide := true) only [Try.f58, rid, kl58_3, ↓sBp, sBq, List.all_cons, List.all_nil, List.map_cons, List.map_nil, D.shape, Sh.sub, Sh.size, List.getElem?_cons_zero, List.getElem?_cons_succ, Option.bind_some, Option.bind_none, Option.getD_some, Option.getD_none, V.keysIn, V.kill, V.has, decide_eq_true_eq, beq_iff_eq, bne_iff_ne, ne_eq, Bool.not_eq_true', Bool.and_true, Bool.and_self, Bool.true_and, if_true, if_false, reduceIte, Bool.false_eq_true, decide_true, decide_false, beq_self_eq_true, Bool.not_true, Bool.not_false, true_and, and_true, and_self, List.append_assoc, List.nil_append, List.cons_append, Int.toNat_natCast, ck, Int.cast_ofNat_Int, Int.reduceToNat, bne_self_eq_false, Bool.or_false, Bool.false_or, Bool.false_and, Bool.and_false, Bool.or_true, Bool.true_or]
  rw [iter_run (S := fun i => ⟨tab .junk [(1, .ptr 1 (shK) [] (shK)), (3, .d (.s (.int .i64 (onlyTo ⟨self, up, c, tD, tP⟩ i)))), (5, .d (.s (.int .i64 (i))))], tab none [(1, some (.box (knD self up c tD tP))), (15, none)]⟩) (n := 16) (h0 := ?h0) (hn := lt_loopFuel (by decide)) (step := ?step)]
  case h0 => rfl
  case step =>
    intro k hk
    have hk1 : (k : Int) < 16 := by omega
    have hk0 : (0 : Int) ≤ k := by omega
    have hkw := wrap_succ k (by omega)
    have hs := onlyTo_succ ⟨self, up, c, tD, tP⟩ k
    have e := rways_ev (K+1) self up c tD tP k
    generalize wList ⟨self, up, c, tD, tP⟩ k = l at e hs
    have hl := ws_len' l
    by_cases h : l.length = 1
    · have h1 : (((ws l).length : Int) == 1) = true := by rw [hl, h]; rfl
      rw [if_pos h] at hs
      simp (decide := true) only [hk1, hk0, hkw, e, h1, hs, rwith_evw, Try.f58, rid, kl58_3, ↓sBp, sBq, List.all_cons, List.all_nil, List.map_cons, List.map_nil, D.shape, Sh.sub, Sh.size, List.getElem?_cons_zero, List.getElem?_cons_succ, Option.bind_some, Option.bind_none, Option.getD_some, Option.getD_none, V.keysIn, V.kill, V.has, decide_eq_true_eq, beq_iff_eq, bne_iff_ne, ne_eq, Bool.not_eq_true', Bool.and_true, Bool.and_self, Bool.true_and, if_true, if_false, reduceIte, Bool.false_eq_true, decide_true, decide_false, beq_self_eq_true, Bool.not_true, Bool.not_false, true_and, and_true, and_self, List.append_assoc, List.nil_append, List.cons_append, Int.toNat_natCast, ck, Int.cast_ofNat_Int, Int.reduceToNat, bne_self_eq_false, Bool.or_false, Bool.false_or, Bool.false_and, Bool.and_false, Bool.or_true, Bool.true_or]
    · have h1 : (((ws l).length : Int) == 1) = false := by rw [hl, beq_eq_false_iff_ne]; omega
      rw [if_neg h] at hs
      simp (decide := true) only [hk1, hk0, hkw, e, h1, hs, Try.f58, rid, kl58_3, ↓sBp, sBq, List.all_cons, List.all_nil, List.map_cons, List.map_nil, D.shape, Sh.sub, Sh.size, List.getElem?_cons_zero, List.getElem?_cons_succ, Option.bind_some, Option.bind_none, Option.getD_some, Option.getD_none, V.keysIn, V.kill, V.has, decide_eq_true_eq, beq_iff_eq, bne_iff_ne, ne_eq, Bool.not_eq_true', Bool.and_true, Bool.and_self, Bool.true_and, if_true, if_false, reduceIte, Bool.false_eq_true, decide_true, decide_false, beq_self_eq_true, Bool.not_true, Bool.not_false, true_and, and_true, and_self, List.append_assoc, List.nil_append, List.cons_append, Int.toNat_natCast, ck, Int.cast_ofNat_Int, Int.reduceToNat, bne_self_eq_false, Bool.or_false, Bool.false_or, Bool.false_and, Bool.and_false, Bool.or_true, Bool.true_or]
  simp (decide := true) only [Try.f58, rid, kl58_3, ↓sBp, sBq, List.all_cons, List.all_nil, List.map_cons, List.map_nil, D.shape, Sh.sub, Sh.size, List.getElem?_cons_zero, List.getElem?_cons_succ, Option.bind_some, Option.bind_none, Option.getD_some, Option.getD_none, V.keysIn, V.kill, V.has, decide_eq_true_eq, beq_iff_eq, bne_iff_ne, ne_eq, Bool.not_eq_true', Bool.and_true, Bool.and_self, Bool.true_and, if_true, if_false, reduceIte, Bool.false_eq_true, decide_true, decide_false, beq_self_eq_true, Bool.not_true, Bool.not_false, true_and, and_true, and_self, List.append_assoc, List.nil_append, List.cons_append, Int.toNat_natCast, ck, Int.cast_ofNat_Int, Int.reduceToNat, bne_self_eq_false, Bool.or_false, Bool.false_or, Bool.false_and, Bool.and_false, Bool.or_true, Bool.true_or]
end Go.Proofs.Ytfbaikkadndckaa.Ev
