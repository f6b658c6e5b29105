/- GaugeMany: what both sorts answer is alike, place by place; so is all the rest: the law. -/
import Derived.Test.YtfmbchnejelpkaaUs
namespace Go.Proofs.Ytfmbchnejelpkaa.Ev
open Go
attribute [local congr] ob_congr sq_congr cd_congr ite_congr1 iter_congr it1_congr jumps_congr
set_option maxRecDepth 100000
set_option linter.unusedSimpArgs false
set_option linter.unusedVariables false
theorem fsame_ord (a b : Nat) : fsame a b = (ord a b == 0) := by
  unfold fsame ord
  rw [nan_val0, nan_val0, flt_val, flt_val, feq_val]
  cases fval a with
  | none => cases fval b <;> simp [oeq]
  | some p =>
    cases fval b with
    | none => simp [oeq]
    | some q =>
      simp only [oeq, olt, Option.isNone_some, Bool.false_and, Bool.false_or, Bool.false_eq_true, false_and, if_false, decide_eq_true_eq]
      by_cases h1 : p < q
      · have : ¬ p = q := by omega
        simp [h1, this]
      · by_cases h2 : q < p
        · have : ¬ p = q := by omega
          simp [h1, h2, this]
        · have : p = q := by omega
          subst this
          cases sgn a <;> cases sgn b <;> simp
theorem fsame_self (a : Nat) : fsame a a = true := by rw [fsame_ord, ord_self]; rfl
theorem take_all {p : Nat → Bool} {L : List Nat} : ∀ n, n ≤ L.length → (∀ i, i < n → p (L.getD i 0) = true) → n ≤ L.countP p := by
  intro n hn h
  have e : (L.take n).countP p = n := by
    rw [List.countP_eq_length.2, List.length_take, Nat.min_eq_left hn]
    intro x hx
    obtain ⟨i, hi, rfl⟩ := List.mem_iff_getElem.1 hx
    have hi' : i < n := by rw [List.length_take] at hi; omega
    have := h i hi'
    rw [List.getElem_take]
    simpa [List.getD, List.getElem?_eq_getElem (show i < L.length by omega)] using this
  have := (List.take_sublist n L).countP_le (p := p)
  omega
theorem drop_none {p : Nat → Bool} {L : List Nat} {n : Nat} (h : ∀ i, n ≤ i → i < L.length → p (L.getD i 0) = false) : L.countP p ≤ n := by
  have e : L.countP p = (L.take n).countP p + (L.drop n).countP p := by rw [← List.countP_append, List.take_append_drop]
  have e2 : (L.drop n).countP p = 0 := by
    rw [List.countP_eq_zero]
    intro x hx
    obtain ⟨i, hi, rfl⟩ := List.mem_iff_getElem.1 hx
    rw [List.length_drop] at hi
    have := h (n + i) (by omega) (by omega)
    rw [List.getElem_drop]
    simpa [List.getD, List.getElem?_eq_getElem (show n + i < L.length by omega)] using this
  have := List.countP_le_length (p := p) (l := L.take n)
  rw [List.length_take] at this
  omega
theorem perm_le {L M : List Nat} (hp : L.Perm M) (sL : SrtL L) (sM : SrtL M) {i : Nat} (hi : i < L.length) : ord (M.getD i 0) (L.getD i 0) ≤ 0 := by
  have hlen := hp.length_eq
  refine Int.not_lt.1 fun hlt => ?_
  have c1 := take_all (p := fun x => decide (ord x (L.getD i 0) ≤ 0)) (L := L) (i + 1) hi (fun k hk => by rw [decide_eq_true_iff]; exact sL k i (by omega) hi)
  have c2 := drop_none (p := fun x => decide (ord x (L.getD i 0) ≤ 0)) (L := M) (n := i) (fun k h1 h2 => by
    rw [decide_eq_false_iff_not]
    intro h3
    have h4 := ord_trans (sM i k h1 h2) h3
    omega)
  have := hp.countP_eq fun x => decide (ord x (L.getD i 0) ≤ 0)
  omega
theorem perm_same {L M : List Nat} (hp : L.Perm M) (sL : SrtL L) (sM : SrtL M) {i : Nat} (hi : i < L.length) : fsame (L.getD i 0) (M.getD i 0) = true := by
  have h1 := perm_le hp sL sM hi
  have h2 := perm_le hp.symm sM sL (i := i) (by have := hp.length_eq; omega)
  have h3 := ord_swap (L.getD i 0) (M.getD i 0)
  rw [fsame_ord, beq_iff_eq]
  omega
theorem ord_s (k a b : Nat) : evF Try.prog env xs (k+3) 7 [.d (dF a), .d (dF b)] = some (.d (.s (.int .i64 (ord a b)))) := up_s (ord_ev k a b)
theorem same_s (k a b : Nat) : evF Try.prog env xs (k+3) 8 [.d (dF a), .d (dF b)] = some (.d (.s (.bool (fsame a b)))) := up_s (same_ev k a b)
theorem isnan_s (k b : Nat) : evF Try.prog env xs (k+1) 11 [.d (dF b)] = some (.d (.s (.bool (nan b)))) := up_s (isnan_ev k b)
theorem awake_x : evF Try.prog env xf 80 9 [] = some (.d (.s (.bool (true)))) := by kernel_rfl
theorem awake_s : evF Try.prog env xs 80 9 [] = some (.d (.s (.bool (true)))) := up_s awake_x
set_option maxHeartbeats 4000000 in
theorem many_ev (l ed L R : List Nat) (P : List D) (x y u : Nat) (b c : Bool) (hl : l.length ≤ 60) (hE : ed.length ≤ 20) (hL : L.length = l.length) (hR : R.length = l.length)
    (e1 : evF Try.prog env xs (80) 15 [.sl .ro cF (fl l)] = some (.sl .ro cF (fl L))) (e2 : evF Try.prog env xs (80) 16 [.sl .ro cF (fl l)] = some (.sl .ro cF (fl R)))
    (e3 : evF Try.prog env xs (80) 17 [.sl .ro cF (fl l)] = some (.tcons (.d (dF x)) (.tcons (.d (.s (.bool (b)))) .tnil))) (e4 : evF Try.prog env xs (80) 18 [.sl .ro cF (fl l)] = some (.tcons (.d (dF y)) (.tcons (.d (.s (.bool (b)))) .tnil)))
    (e5 : evF Try.prog env xs (80) 19 [.sl .ro cF (fl l)] = some (.tcons (.d (dF u)) (.tcons (.d (.s (.bool (c)))) .tnil))) (e6 : evF Try.prog env xs (80) 20 [.sl .ro cF (fl l)] = some (.tcons (.d (dF u)) (.tcons (.d (.s (.bool (c)))) .tnil)))
    (e7 : evF Try.prog env xs (80) 21 [.sl .ro cF (fl l), .sl .ro cF (fl ed)] = some (.sl .ro cI P)) (e8 : evF Try.prog env xs (80) 22 [.sl .ro cF (fl l), .sl .ro cF (fl ed)] = some (.sl .ro cI P))
    (hxy : fsame x y = true) (hLR : ∀ i, i < l.length → fsame (L.getD i 0) (R.getD i 0) = true) (hs : SrtL L)
    (f : Nat → Nat) (hf : ∀ k, k < P.length → P[k]? = some (.s (.int .i64 (f k)))) (hPn : P.length ≤ 21) (hsum : P.length = 0 ∨ sumTo f P.length = nums l l.length) (hbd : sumTo f P.length ≤ 60) :
    evF Try.prog env xs (81) 6 [.sl .ro cF (fl l), .sl .ro cF (fl ed)] = some (.d (.s (.bool (true)))) := by
  rw [evF_eq Try.func6 (show Try.f6.body = some _ from rfl) rfl rfl rfl (by show 2 ≤ 174; decide)]
  have hll := fl_len l
  have hle := fl_len ed
  have hlL := (fl_len L).trans hL
  have hlR := (fl_len R).trans hR
  have g1 : ¬ (60 : Int) < (l.length : Int) := by omega
  have g2 : ¬ (20 : Int) < (ed.length : Int) := by omega
  have q1 : ((l.length : Int) != (l.length : Int)) = false := by simp
  have q2 : ((P.length : Int) != (P.length : Int)) = false := by simp
  have q3 : (b != b) = false := by simp
  have q4 : (c != c) = false := by simp
  have hu := fsame_self u
  have hn1 := nums_le l l.length
  simp (decide := true) only [hll, hle, hlL, hlR, g1, g2, q1, q2, q3, q4, hu, hxy, e1, e2, e3, e4, e5, e6, e7, e8, same_s, Try.f6, rid, kl6_13, kl6_20, dp6_15, dp6_22, ↓sBp, sBq, List.all_cons, List.all_nil, List.map_cons, List.map_nil, D.shape, Sh.sub, Sh.size, List.getElem?_cons_zero, List.getElem?_cons_succ, Option.bind_some, Option.bind_none, Option.getD_some, Option.getD_none, V.keysIn, V.kill, V.has, decide_eq_true_eq, beq_iff_eq, bne_iff_ne, ne_eq, Bool.not_eq_true', Bool.and_true, Bool.and_self, Bool.true_and, if_true, if_false, reduceIte, Bool.false_eq_true, decide_true, decide_false, beq_self_eq_true, Bool.not_true, Bool.not_false, true_and, and_true, and_self, List.append_assoc, List.nil_append, List.cons_append, Int.toNat_natCast, ck, Int.cast_ofNat_Int, Int.reduceToNat, bne_self_eq_false, Bool.or_false, Bool.false_or, Bool.false_and, Bool.and_false, Bool.or_true, Bool.true_or]
  rw [iter_run (S := fun k => ⟨tab .junk [(0, .sl .ro cF (fl l)), (5, .sl (.tg 31) cF (fl L)), (6, .sl (.tg 33) cF (fl R)), (15, .sl (.tg 56) cI P), (16, .sl (.tg 59) cI P), (17, .d (.s (.int .i64 (sumTo f k)))), (18, .d (.s (.int .i64 (0)))), (102, .d (.s (.int .i64 (P.length)))), (103, .d (.s (.int .i64 (k))))], tab none [(31, some .row), (33, some .row), (56, some .row), (59, some .row)]⟩) (n := P.length) (h0 := ?h0) (hn := ?hn) (step := ?step)]
  case hn => exact lt_loopFuel (by omega)
  case h0 => rfl
  case step =>
    intro k hk
    have h1 : (k : Int) < (P.length : Int) := by omega
    have h0 := i0 k
    have hw := wrap_succ k (by omega)
    have hg := hf k hk
    have hle := sumTo_le f (show k + 1 ≤ P.length by omega)
    have hst : sumTo f (k + 1) = sumTo f k + f k := rfl
    have wa := wadd (a := sumTo f k) (b := f k) (by omega) (by omega)
    have hne : ((f k : Int) != (f k : Int)) = false := by simp
    simp (decide := true) only [h1, h0, hw, hg, wa, hne, hst, Try.f6, rid, kl6_13, kl6_20, dp6_15, dp6_22, ↓sBp, sBq, List.all_cons, List.all_nil, List.map_cons, List.map_nil, D.shape, Sh.sub, Sh.size, List.getElem?_cons_zero, List.getElem?_cons_succ, Option.bind_some, Option.bind_none, Option.getD_some, Option.getD_none, V.keysIn, V.kill, V.has, decide_eq_true_eq, beq_iff_eq, bne_iff_ne, ne_eq, Bool.not_eq_true', Bool.and_true, Bool.and_self, Bool.true_and, if_true, if_false, reduceIte, Bool.false_eq_true, decide_true, decide_false, beq_self_eq_true, Bool.not_true, Bool.not_false, true_and, and_true, and_self, List.append_assoc, List.nil_append, List.cons_append, Int.toNat_natCast, ck, Int.cast_ofNat_Int, Int.reduceToNat, bne_self_eq_false, Bool.or_false, Bool.false_or, Bool.false_and, Bool.and_false, Bool.or_true, Bool.true_or]
  simp (decide := true) only [Int.lt_irrefl, hlL, Try.f6, rid, kl6_13, kl6_20, dp6_15, dp6_22, ↓sBp, sBq, List.all_cons, List.all_nil, List.map_cons, List.map_nil, D.shape, Sh.sub, Sh.size, List.getElem?_cons_zero, List.getElem?_cons_succ, Option.bind_some, Option.bind_none, Option.getD_some, Option.getD_none, V.keysIn, V.kill, V.has, decide_eq_true_eq, beq_iff_eq, bne_iff_ne, ne_eq, Bool.not_eq_true', Bool.and_true, Bool.and_self, Bool.true_and, if_true, if_false, reduceIte, Bool.false_eq_true, decide_true, decide_false, beq_self_eq_true, Bool.not_true, Bool.not_false, true_and, and_true, and_self, List.append_assoc, List.nil_append, List.cons_append, Int.toNat_natCast, ck, Int.cast_ofNat_Int, Int.reduceToNat, bne_self_eq_false, Bool.or_false, Bool.false_or, Bool.false_and, Bool.and_false, Bool.or_true, Bool.true_or]
  rw [iter_run (S := fun k => ⟨tab .junk [(0, .sl .ro cF (fl l)), (5, .sl (.tg 31) cF (fl L)), (6, .sl (.tg 33) cF (fl R)), (15, .sl (.tg 56) cI P), (17, .d (.s (.int .i64 (sumTo f P.length)))), (18, .d (.s (.int .i64 (nums l k)))), (123, .d (.s (.int .i64 (l.length)))), (124, .d (.s (.int .i64 (k))))], tab none [(31, some .row), (33, some .row), (56, some .row)]⟩) (n := l.length) (h0 := ?h0) (hn := ?hn) (step := ?step)]
  case hn => exact lt_loopFuel (by omega)
  case h0 => rfl
  case step =>
    intro k hk
    have h1 : (k : Int) < (l.length : Int) := by omega
    have h0 := i0 k
    have hw := wrap_succ k (by omega)
    have hgl := fl_get l k hk
    have hgL := fl_get L k (by omega)
    have hgR := fl_get R k (by omega)
    have hsm := hLR k hk
    have hnl := nums_le l k
    have hwn := wrap_succ (nums l k) (by omega)
    rcases Bool.eq_false_or_eq_true (nan (l.getD k 0)) with hn | hn
    · have hnn := nums_nan hk hn
      cases k with
      | zero =>
        have hw0 : IntKind.i64.wrap ((0 : Int) + 1) = 1 := rfl
        have z0 : ((0 : Nat) : Int) = 0 := rfl
        have z1 : ((0 + 1 : Nat) : Int) = 1 := rfl
        rw [z0] at h1
        simp (decide := true) only [z0, z1, h1, hw0, hgl, hgL, hgR, same_s, hsm, isnan_s, hn, hnn, Try.f6, rid, kl6_13, kl6_20, dp6_15, dp6_22, ↓sBp, sBq, List.all_cons, List.all_nil, List.map_cons, List.map_nil, D.shape, Sh.sub, Sh.size, List.getElem?_cons_zero, List.getElem?_cons_succ, Option.bind_some, Option.bind_none, Option.getD_some, Option.getD_none, V.keysIn, V.kill, V.has, decide_eq_true_eq, beq_iff_eq, bne_iff_ne, ne_eq, Bool.not_eq_true', Bool.and_true, Bool.and_self, Bool.true_and, if_true, if_false, reduceIte, Bool.false_eq_true, decide_true, decide_false, beq_self_eq_true, Bool.not_true, Bool.not_false, true_and, and_true, and_self, List.append_assoc, List.nil_append, List.cons_append, Int.toNat_natCast, ck, Int.cast_ofNat_Int, Int.reduceToNat, bne_self_eq_false, Bool.or_false, Bool.false_or, Bool.false_and, Bool.and_false, Bool.or_true, Bool.true_or]
      | succ k =>
        have hgt : (0 : Int) < ((k + 1 : Nat) : Int) := by omega
        have m0 := i0 k
        have hw1 : IntKind.i64.wrap (((k + 1 : Nat) : Int) - 1) = (k : Int) := by rw [IntWalk.i64_in _ (by omega)]; omega
        have hgL1 := fl_get L k (by omega)
        have ho : ¬ 0 < ord (L.getD k 0) (L.getD (k + 1) 0) := by have := hs k (k + 1) (by omega) (by omega); omega
        simp (decide := true) only [h1, h0, hw, hgl, hgL, hgR, same_s, hsm, isnan_s, hn, hnn, hgt, m0, hw1, hgL1, ord_s, ho, Try.f6, rid, kl6_13, kl6_20, dp6_15, dp6_22, ↓sBp, sBq, List.all_cons, List.all_nil, List.map_cons, List.map_nil, D.shape, Sh.sub, Sh.size, List.getElem?_cons_zero, List.getElem?_cons_succ, Option.bind_some, Option.bind_none, Option.getD_some, Option.getD_none, V.keysIn, V.kill, V.has, decide_eq_true_eq, beq_iff_eq, bne_iff_ne, ne_eq, Bool.not_eq_true', Bool.and_true, Bool.and_self, Bool.true_and, if_true, if_false, reduceIte, Bool.false_eq_true, decide_true, decide_false, beq_self_eq_true, Bool.not_true, Bool.not_false, true_and, and_true, and_self, List.append_assoc, List.nil_append, List.cons_append, Int.toNat_natCast, ck, Int.cast_ofNat_Int, Int.reduceToNat, bne_self_eq_false, Bool.or_false, Bool.false_or, Bool.false_and, Bool.and_false, Bool.or_true, Bool.true_or]
    · have hnn := nums_not hk hn
      cases k with
      | zero =>
        have hw0 : IntKind.i64.wrap ((0 : Int) + 1) = 1 := rfl
        have z0 : ((0 : Nat) : Int) = 0 := rfl
        have z1 : ((0 + 1 : Nat) : Int) = 1 := rfl
        rw [z0] at h1
        simp (decide := true) only [z0, z1, h1, hw0, hgl, hgL, hgR, same_s, hsm, isnan_s, hn, hnn, hwn, Try.f6, rid, kl6_13, kl6_20, dp6_15, dp6_22, ↓sBp, sBq, List.all_cons, List.all_nil, List.map_cons, List.map_nil, D.shape, Sh.sub, Sh.size, List.getElem?_cons_zero, List.getElem?_cons_succ, Option.bind_some, Option.bind_none, Option.getD_some, Option.getD_none, V.keysIn, V.kill, V.has, decide_eq_true_eq, beq_iff_eq, bne_iff_ne, ne_eq, Bool.not_eq_true', Bool.and_true, Bool.and_self, Bool.true_and, if_true, if_false, reduceIte, Bool.false_eq_true, decide_true, decide_false, beq_self_eq_true, Bool.not_true, Bool.not_false, true_and, and_true, and_self, List.append_assoc, List.nil_append, List.cons_append, Int.toNat_natCast, ck, Int.cast_ofNat_Int, Int.reduceToNat, bne_self_eq_false, Bool.or_false, Bool.false_or, Bool.false_and, Bool.and_false, Bool.or_true, Bool.true_or]
      | succ k =>
        have hgt : (0 : Int) < ((k + 1 : Nat) : Int) := by omega
        have m0 := i0 k
        have hw1 : IntKind.i64.wrap (((k + 1 : Nat) : Int) - 1) = (k : Int) := by rw [IntWalk.i64_in _ (by omega)]; omega
        have hgL1 := fl_get L k (by omega)
        have ho : ¬ 0 < ord (L.getD k 0) (L.getD (k + 1) 0) := by have := hs k (k + 1) (by omega) (by omega); omega
        simp (decide := true) only [h1, h0, hw, hgl, hgL, hgR, same_s, hsm, isnan_s, hn, hnn, hwn, hgt, m0, hw1, hgL1, ord_s, ho, Try.f6, rid, kl6_13, kl6_20, dp6_15, dp6_22, ↓sBp, sBq, List.all_cons, List.all_nil, List.map_cons, List.map_nil, D.shape, Sh.sub, Sh.size, List.getElem?_cons_zero, List.getElem?_cons_succ, Option.bind_some, Option.bind_none, Option.getD_some, Option.getD_none, V.keysIn, V.kill, V.has, decide_eq_true_eq, beq_iff_eq, bne_iff_ne, ne_eq, Bool.not_eq_true', Bool.and_true, Bool.and_self, Bool.true_and, if_true, if_false, reduceIte, Bool.false_eq_true, decide_true, decide_false, beq_self_eq_true, Bool.not_true, Bool.not_false, true_and, and_true, and_self, List.append_assoc, List.nil_append, List.cons_append, Int.toNat_natCast, ck, Int.cast_ofNat_Int, Int.reduceToNat, bne_self_eq_false, Bool.or_false, Bool.false_or, Bool.false_and, Bool.and_false, Bool.or_true, Bool.true_or]
  rcases hsum with hz | hz
  · have z1 : ((P.length : Int) == 0) = true := by rw [beq_iff_eq]; omega
    simp (decide := true) only [Int.lt_irrefl, z1, awake_s, Try.f6, rid, kl6_13, kl6_20, dp6_15, dp6_22, ↓sBp, sBq, List.all_cons, List.all_nil, List.map_cons, List.map_nil, D.shape, Sh.sub, Sh.size, List.getElem?_cons_zero, List.getElem?_cons_succ, Option.bind_some, Option.bind_none, Option.getD_some, Option.getD_none, V.keysIn, V.kill, V.has, decide_eq_true_eq, beq_iff_eq, bne_iff_ne, ne_eq, Bool.not_eq_true', Bool.and_true, Bool.and_self, Bool.true_and, if_true, if_false, reduceIte, Bool.false_eq_true, decide_true, decide_false, beq_self_eq_true, Bool.not_true, Bool.not_false, true_and, and_true, and_self, List.append_assoc, List.nil_append, List.cons_append, Int.toNat_natCast, ck, Int.cast_ofNat_Int, Int.reduceToNat, bne_self_eq_false, Bool.or_false, Bool.false_or, Bool.false_and, Bool.and_false, Bool.or_true, Bool.true_or]
  · rcases Bool.eq_false_or_eq_true ((P.length : Int) == 0) with z1 | z1
    · simp (decide := true) only [Int.lt_irrefl, z1, awake_s, Try.f6, rid, kl6_13, kl6_20, dp6_15, dp6_22, ↓sBp, sBq, List.all_cons, List.all_nil, List.map_cons, List.map_nil, D.shape, Sh.sub, Sh.size, List.getElem?_cons_zero, List.getElem?_cons_succ, Option.bind_some, Option.bind_none, Option.getD_some, Option.getD_none, V.keysIn, V.kill, V.has, decide_eq_true_eq, beq_iff_eq, bne_iff_ne, ne_eq, Bool.not_eq_true', Bool.and_true, Bool.and_self, Bool.true_and, if_true, if_false, reduceIte, Bool.false_eq_true, decide_true, decide_false, beq_self_eq_true, Bool.not_true, Bool.not_false, true_and, and_true, and_self, List.append_assoc, List.nil_append, List.cons_append, Int.toNat_natCast, ck, Int.cast_ofNat_Int, Int.reduceToNat, bne_self_eq_false, Bool.or_false, Bool.false_or, Bool.false_and, Bool.and_false, Bool.or_true, Bool.true_or]
    · have z2 : ((nums l l.length : Int) == (nums l l.length : Int)) = true := by simp
      simp (decide := true) only [Int.lt_irrefl, z1, hz, z2, awake_s, Try.f6, rid, kl6_13, kl6_20, dp6_15, dp6_22, ↓sBp, sBq, List.all_cons, List.all_nil, List.map_cons, List.map_nil, D.shape, Sh.sub, Sh.size, List.getElem?_cons_zero, List.getElem?_cons_succ, Option.bind_some, Option.bind_none, Option.getD_some, Option.getD_none, V.keysIn, V.kill, V.has, decide_eq_true_eq, beq_iff_eq, bne_iff_ne, ne_eq, Bool.not_eq_true', Bool.and_true, Bool.and_self, Bool.true_and, if_true, if_false, reduceIte, Bool.false_eq_true, decide_true, decide_false, beq_self_eq_true, Bool.not_true, Bool.not_false, true_and, and_true, and_self, List.append_assoc, List.nil_append, List.cons_append, Int.toNat_natCast, ck, Int.cast_ofNat_Int, Int.reduceToNat, bne_self_eq_false, Bool.or_false, Bool.false_or, Bool.false_and, Bool.and_false, Bool.or_true, Bool.true_or]
theorem many_skip (l ed : List Nat) (h : 60 < l.length ∨ 20 < ed.length) : evF Try.prog env xs (81) 6 [.sl .ro cF (fl l), .sl .ro cF (fl ed)] = some (.d (.s (.bool (true)))) := by
  rw [evF_eq Try.func6 (show Try.f6.body = some _ from rfl) rfl rfl rfl (by show 2 ≤ 174; decide)]
  have hll := fl_len l
  have hle := fl_len ed
  by_cases h1 : 60 < l.length
  · have g1 : (60 : Int) < (l.length : Int) := by omega
    simp (decide := true) only [hll, g1, awake_s, Try.f6, rid, kl6_13, kl6_20, dp6_15, dp6_22, ↓sBp, sBq, List.all_cons, List.all_nil, List.map_cons, List.map_nil, D.shape, Sh.sub, Sh.size, List.getElem?_cons_zero, List.getElem?_cons_succ, Option.bind_some, Option.bind_none, Option.getD_some, Option.getD_none, V.keysIn, V.kill, V.has, decide_eq_true_eq, beq_iff_eq, bne_iff_ne, ne_eq, Bool.not_eq_true', Bool.and_true, Bool.and_self, Bool.true_and, if_true, if_false, reduceIte, Bool.false_eq_true, decide_true, decide_false, beq_self_eq_true, Bool.not_true, Bool.not_false, true_and, and_true, and_self, List.append_assoc, List.nil_append, List.cons_append, Int.toNat_natCast, ck, Int.cast_ofNat_Int, Int.reduceToNat, bne_self_eq_false, Bool.or_false, Bool.false_or, Bool.false_and, Bool.and_false, Bool.or_true, Bool.true_or]
  · have g1 : ¬ (60 : Int) < (l.length : Int) := by omega
    have g2 : (20 : Int) < (ed.length : Int) := by omega
    simp (decide := true) only [hll, hle, g1, g2, awake_s, Try.f6, rid, kl6_13, kl6_20, dp6_15, dp6_22, ↓sBp, sBq, List.all_cons, List.all_nil, List.map_cons, List.map_nil, D.shape, Sh.sub, Sh.size, List.getElem?_cons_zero, List.getElem?_cons_succ, Option.bind_some, Option.bind_none, Option.getD_some, Option.getD_none, V.keysIn, V.kill, V.has, decide_eq_true_eq, beq_iff_eq, bne_iff_ne, ne_eq, Bool.not_eq_true', Bool.and_true, Bool.and_self, Bool.true_and, if_true, if_false, reduceIte, Bool.false_eq_true, decide_true, decide_false, beq_self_eq_true, Bool.not_true, Bool.not_false, true_and, and_true, and_self, List.append_assoc, List.nil_append, List.cons_append, Int.toNat_natCast, ck, Int.cast_ofNat_Int, Int.reduceToNat, bne_self_eq_false, Bool.or_false, Bool.false_or, Bool.false_and, Bool.and_false, Bool.or_true, Bool.true_or]
theorem many_fl (l ed : List Nat) : evF Try.prog env xs (81) 6 [.sl .ro cF (fl l), .sl .ro cF (fl ed)] = some (.d (.s (.bool (true)))) := by
  by_cases h : 60 < l.length ∨ 20 < ed.length
  · exact many_skip l ed h
  have hl : l.length ≤ 60 := by omega
  have hE : ed.length ≤ 20 := by omega
  obtain ⟨L, p1, p2, p3⟩ := gsorted_ev 13 l hl
  obtain ⟨M, m1, m2, m3⟩ := gmiddle_ev 12 l hl
  have rp := rS_perm l l.length (Nat.le_refl _)
  rw [List.take_length] at rp
  have fp := rS_perm (fk l l.length) (fk l l.length).length (Nat.le_refl _)
  rw [List.take_length] at fp
  have m4 := up_s m3
  have m5 := rmiddle_ev 76 l hl
  have u1 := up_s (gmean_ev 75 l hl)
  have u2 := up_s (rmean_ev 76 l hl)
  have b1 := gbins_ev 79 l ed hl (by omega)
  have b2 := rbins_ev 79 l ed hl (by omega)
  have hLR : ∀ i, i < l.length → fsame (L.getD i 0) ((rS l l.length).getD i 0) = true := fun i hi => perm_same (p2.trans rp.symm) p3 (rS_srt l _) (by rw [p2.length_eq]; exact hi)
  have key : ∃ f : Nat → Nat, (∀ k, k < (bins ed l).length → (bins ed l)[k]? = some (.s (.int .i64 (f k)))) ∧ (bins ed l).length ≤ 21 ∧ ((bins ed l).length = 0 ∨ sumTo f (bins ed l).length = nums l l.length) ∧ sumTo f (bins ed l).length ≤ 60 := by
    rcases first_fail (okB ed) ed.length with ok | ⟨n, h1, h2, h3⟩
    · rw [bins_ok ok]
      have e := cn_sum ed l l.length (Nat.le_refl _)
      have hn := nums_le l l.length
      refine ⟨cn ed l l.length, fun k hk => ?_, ?_, ?_, ?_⟩
      · rw [ci_len] at hk; exact ci_get _ hk
      · rw [ci_len]; omega
      · rw [ci_len]; exact .inr e
      · rw [ci_len, e]; omega
    · rw [bins_bad h1 h2]
      exact ⟨fun _ => 0, fun k hk => absurd hk (by simp), by simp, .inl rfl, Nat.zero_le _⟩
  obtain ⟨f, k1, k2, k3, k4⟩ := key
  have hM := m1.length_eq
  by_cases hz : (fk l l.length).length = 0
  · rw [if_pos (by omega)] at m4
    rw [if_pos hz] at m5 u1 u2
    exact many_ev l ed L (rS l l.length) (bins ed l) 0 0 0 false false hl hE p2.length_eq rp.length_eq (up_s p1) (rsorted_ev 79 l hl) m4 m5 u1 u2 b1 b2 (fsame_self 0) hLR p3 f k1 k2 k3 k4
  · rw [if_neg (by omega)] at m4
    rw [if_neg hz] at m5 u1 u2
    refine many_ev l ed L (rS l l.length) (bins ed l) _ _ _ true true hl hE p2.length_eq rp.length_eq (up_s p1) (rsorted_ev 79 l hl) m4 m5 u1 u2 b1 b2 ?_ hLR p3 f k1 k2 k3 k4
    rw [hM]
    exact perm_same (m1.trans fp.symm) m2 (rS_srt _ _) (by omega)
end Go.Proofs.Ytfmbchnejelpkaa.Ev
