/- gauge.fines; gauge.Mean and fingerpostref04.Mean. -/
import Derived.Test.YtfmbchnejelpkaaUi
import Derived.Test.YtfmbchnejelpkaaFn
namespace Go.Proofs.Ytfmbchnejelpkaa.Ev
open Go
attribute [local congr] ob_congr sq_congr cd_congr ite_congr1 iter_congr it1_congr jumps_congr
set_option maxRecDepth 100000
set_option linter.unusedSimpArgs false
set_option linter.unusedVariables false
theorem fl_len (l : List Nat) : (fl l).length = l.length := List.length_map ..
theorem fl_get (l : List Nat) (q : Nat) (h : q < l.length) : (fl l)[q]? = some (dF (l.getD q 0)) := by
  simp [fl, List.getD, List.getElem?_eq_getElem h]
theorem fl_snoc (l : List Nat) (x : Nat) : fl l ++ [dF x] = fl (l ++ [x]) := by simp [fl]
theorem take_snoc (l : List Nat) {k : Nat} (h : k < l.length) : l.take (k + 1) = l.take k ++ [l.getD k 0] := by
  rw [List.take_add_one]; simp [List.getD, List.getElem?_eq_getElem h]
/-- Those that are fine, of the first k. -/
def fk (l : List Nat) (k : Nat) : List Nat := (l.take k).filter fine
theorem fk_zero (l : List Nat) : fk l 0 = [] := rfl
theorem fk_yes (l : List Nat) {k : Nat} (h : k < l.length) (hf : fine (l.getD k 0) = true) : fk l (k + 1) = fk l k ++ [l.getD k 0] := by
  unfold fk; rw [take_snoc l h, List.filter_append, List.filter_cons, hf]; rfl
theorem fk_no (l : List Nat) {k : Nat} (h : k < l.length) (hf : fine (l.getD k 0) = false) : fk l (k + 1) = fk l k := by
  unfold fk; rw [take_snoc l h, List.filter_append, List.filter_cons, hf]; exact List.append_nil _
theorem fk_len (l : List Nat) (k : Nat) : (fk l k).length ≤ l.length := by
  unfold fk; exact Nat.le_trans (List.length_filter_le _ _) (by rw [List.length_take]; omega)
theorem fines_ev (d : Nat) (l : List Nat) (hl : l.length ≤ 60) : evF Try.prog env xf (d+4) 31 [.sl .ro cF (fl l)] = some (.sl .ro cF (fl (fk l l.length))) := by
  rw [evF_eq Try.func31 (show Try.f31.body = some _ from rfl) rfl rfl rfl (by show 1 ≤ 20; decide)]
  have hlL := fl_len l
  simp (decide := true) only [hlL, Try.f31, rid, kl31_3, ↓sBp, sBq, List.all_cons, List.all_nil, List.map_cons, List.map_nil, D.shape, Sh.sub, Sh.size, List.getElem?_cons_zero, List.getElem?_cons_succ, Option.bind_some, Option.bind_none, Option.getD_some, Option.getD_none, V.keysIn, V.kill, V.has, decide_eq_true_eq, beq_iff_eq, bne_iff_ne, ne_eq, Bool.not_eq_true', Bool.and_true, Bool.and_self, Bool.true_and, if_true, if_false, reduceIte, Bool.false_eq_true, decide_true, decide_false, beq_self_eq_true, Bool.not_true, Bool.not_false, true_and, and_true, and_self, List.append_assoc, List.nil_append, List.cons_append, Int.toNat_natCast, ck, Int.cast_ofNat_Int, Int.reduceToNat, bne_self_eq_false, Bool.or_false, Bool.false_or, Bool.false_and, Bool.and_false, Bool.or_true, Bool.true_or]
  rw [iter_run (S := fun k => ⟨tab .junk [(3, .sl (.tg 3) cF (fl (fk l k))), (6, .sl .ro cF (fl l)), (7, .d (.s (.int .i64 (l.length)))), (8, .d (.s (.int .i64 (k))))], tab none [(3, some .row), (17, none)]⟩) (n := l.length) (h0 := ?h0) (hn := ?hn) (step := ?step)]
  case hn => exact lt_loopFuel (by omega)
  case h0 => rfl
  case step =>
    intro k hk
    have h1 : (k : Int) < (l.length : Int) := by omega
    have h0 := i0 k
    have hw := wrap_succ k (by omega)
    have hg := fl_get l k hk
    rcases Bool.eq_false_or_eq_true (fine (l.getD k 0)) with h | h
    · have e := fk_yes l hk h
      have c1 := app_ok2 (fl (fk l k)).length ((List.replicate 1 Z22).set 0 (dF (l.getD k 0))).length 8 (by omega) (by have := fk_len l k; rw [fl_len]; simp only [List.length_set, List.length_replicate]; omega)
      have e2 : fl (fk l k) ++ (List.replicate 1 Z22).set 0 (dF (l.getD k 0)) = fl (fk l (k + 1)) := by rw [e]; exact fl_snoc _ _
      simp (decide := true) only [h1, h0, hw, hg, fine_ev, h, c1, e2, Try.f31, rid, kl31_3, ↓sBp, sBq, List.all_cons, List.all_nil, List.map_cons, List.map_nil, D.shape, Sh.sub, Sh.size, List.getElem?_cons_zero, List.getElem?_cons_succ, Option.bind_some, Option.bind_none, Option.getD_some, Option.getD_none, V.keysIn, V.kill, V.has, decide_eq_true_eq, beq_iff_eq, bne_iff_ne, ne_eq, Bool.not_eq_true', Bool.and_true, Bool.and_self, Bool.true_and, if_true, if_false, reduceIte, Bool.false_eq_true, decide_true, decide_false, beq_self_eq_true, Bool.not_true, Bool.not_false, true_and, and_true, and_self, List.append_assoc, List.nil_append, List.cons_append, Int.toNat_natCast, ck, Int.cast_ofNat_Int, Int.reduceToNat, bne_self_eq_false, Bool.or_false, Bool.false_or, Bool.false_and, Bool.and_false, Bool.or_true, Bool.true_or]
    · have e := fk_no l hk h
      simp (decide := true) only [h1, h0, hw, hg, fine_ev, h, e, Try.f31, rid, kl31_3, ↓sBp, sBq, List.all_cons, List.all_nil, List.map_cons, List.map_nil, D.shape, Sh.sub, Sh.size, List.getElem?_cons_zero, List.getElem?_cons_succ, Option.bind_some, Option.bind_none, Option.getD_some, Option.getD_none, V.keysIn, V.kill, V.has, decide_eq_true_eq, beq_iff_eq, bne_iff_ne, ne_eq, Bool.not_eq_true', Bool.and_true, Bool.and_self, Bool.true_and, if_true, if_false, reduceIte, Bool.false_eq_true, decide_true, decide_false, beq_self_eq_true, Bool.not_true, Bool.not_false, true_and, and_true, and_self, List.append_assoc, List.nil_append, List.cons_append, Int.toNat_natCast, ck, Int.cast_ofNat_Int, Int.reduceToNat, bne_self_eq_false, Bool.or_false, Bool.false_or, Bool.false_and, Bool.and_false, Bool.or_true, Bool.true_or]
  simp (decide := true) only [Int.lt_irrefl, Try.f31, rid, kl31_3, ↓sBp, sBq, List.all_cons, List.all_nil, List.map_cons, List.map_nil, D.shape, Sh.sub, Sh.size, List.getElem?_cons_zero, List.getElem?_cons_succ, Option.bind_some, Option.bind_none, Option.getD_some, Option.getD_none, V.keysIn, V.kill, V.has, decide_eq_true_eq, beq_iff_eq, bne_iff_ne, ne_eq, Bool.not_eq_true', Bool.and_true, Bool.and_self, Bool.true_and, if_true, if_false, reduceIte, Bool.false_eq_true, decide_true, decide_false, beq_self_eq_true, Bool.not_true, Bool.not_false, true_and, and_true, and_self, List.append_assoc, List.nil_append, List.cons_append, Int.toNat_natCast, ck, Int.cast_ofNat_Int, Int.reduceToNat, bne_self_eq_false, Bool.or_false, Bool.false_or, Bool.false_and, Bool.and_false, Bool.or_true, Bool.true_or]
/- Sums of fine numbers. -/
open Ieee in
def NB (b : Nat) : Prop := ∀ s t, double.read b ≠ .nan s t
open Ieee in
theorem word_nb (neg : Bool) (rung : Nat) (h : rung ≤ 9218868437227405312) : NB (double.word neg rung) := by
  have e1 : double.leastPlace = -1074 := rfl
  have e2 : double.binade = 4503599627370496 := rfl
  have e3 : double.infRung = 9218868437227405312 := rfl
  have e4 : double.signWeight = 9223372036854775808 := rfl
  have hm : double.word neg rung % 9223372036854775808 = rung := by unfold Format.word; rw [e4]; split <;> omega
  intro s t
  unfold Format.read
  simp only [e1, e2, e3, e4, hm]
  split
  · exact fun h => by cases h
  · split
    · exact fun h => by cases h
    · rw [if_pos (by omega)]; exact fun h => by cases h
open Ieee in
theorem write_nb {d : Datum} (h : ∀ s t, d ≠ .nan s t) : NB (double.write d) := by
  cases d with
  | nan s t => exact absurd rfl (h s t)
  | infinity s => exact word_nb s _ (Nat.le_refl _)
  | number s m i =>
    show NB (double.nearest s m i)
    unfold Format.nearest
    split
    · exact word_nb s 0 (by omega)
    · exact word_nb s _ (Nat.min_le_right _ _)
open Ieee in
theorem add_nb {x y : Nat} (hx : NB x) (hy : ∃ s m i, double.read y = .number s m i) : ∃ r, double.add x y = some r ∧ NB r := by
  obtain ⟨s, m, i, hy⟩ := hy
  unfold Format.add
  rw [hy]
  cases h : double.read x with
  | nan s t => exact absurd h (hx s t)
  | infinity s' => exact ⟨_, rfl, write_nb (fun s t h => by cases h)⟩
  | number s' m' i' => exact ⟨_, rfl, write_nb (fun s t h => by cases h)⟩
open Ieee in
theorem div_nb {x y : Nat} (hx : NB x) (hy : ∃ s m i, double.read y = .number s m i ∧ m ≠ 0) : ∃ r, double.div x y = some r := by
  obtain ⟨s, m, i, hy, hm⟩ := hy
  unfold Format.div
  rw [hy]
  cases h : double.read x with
  | nan s t => exact absurd h (hx s t)
  | infinity s' => exact ⟨_, rfl⟩
  | number s' m' i' => exact ⟨_, congrArg (Option.map double.write) (if_neg hm)⟩
open Ieee in
theorem fine_num {b : Nat} (h : fine b = true) : ∃ s m i, double.read b = .number s m i := by
  unfold fine at h
  simp only [Bool.and_eq_true] at h
  obtain ⟨h1, h2, _⟩ := h
  have z0 : double.read 0 = .number false 0 (-1074) := by decide +kernel
  have z1 : double.read 4741671816366391296 = .number false 8388608000000000 (-23) := by decide +kernel
  unfold fle Format.order at h1 h2
  rw [z0] at h1
  rw [z1] at h2
  cases hr : double.read b with
  | number s m i => exact ⟨s, m, i, rfl⟩
  | nan s t => rw [hr] at h1; exact absurd h1 (by simp only [Datum.order]; decide)
  | infinity s =>
    rw [hr] at h1 h2
    cases s
    · exact absurd h2 (by simp only [Datum.order]; decide)
    · exact absurd h1 (by simp only [Datum.order]; decide)
def sums (L : List Nat) : Nat := L.foldl (fun s x => (Ieee.double.add s x).getD 0) 0
theorem sums_nb0 (L : List Nat) (h : ∀ x ∈ L, fine x = true) : ∀ s, NB s → NB (L.foldl (fun s x => (Ieee.double.add s x).getD 0) s) := by
  induction L with
  | nil => exact fun s h => h
  | cons x L ih =>
    intro s hs
    obtain ⟨r, h1, h2⟩ := add_nb hs (fine_num (h x (by simp)))
    rw [List.foldl_cons, h1]
    exact ih (fun y hy => h y (by simp [hy])) r h2
theorem nb_zero : NB 0 := word_nb false 0 (by omega)
theorem sums_nb {L : List Nat} (h : ∀ x ∈ L, fine x = true) : NB (sums L) := sums_nb0 L h 0 nb_zero
theorem sums_add {L : List Nat} {x : Nat} (h : ∀ x ∈ L, fine x = true) (hx : fine x = true) : Ieee.double.add (sums L) x = some (sums (L ++ [x])) := by
  obtain ⟨r, h1, _⟩ := add_nb (sums_nb h) (fine_num hx)
  have : sums (L ++ [x]) = (Ieee.double.add (sums L) x).getD 0 := by unfold sums; rw [List.foldl_append]; rfl
  rw [this, h1]; rfl
def mean (L : List Nat) : Nat := (Ieee.double.div (sums L) (FloatKind.f64.nearest (L.length : Int))).getD 0
theorem mean_ok {L : List Nat} (h : ∀ x ∈ L, fine x = true) (hn : 0 < L.length) (hl : L.length ≤ 60) : Ieee.double.div (sums L) (FloatKind.f64.nearest (L.length : Int)) = some (mean L) := by
  have nn := int_exact (n := L.length) (by omega)
  obtain ⟨_, m, i, h1, h2⟩ := nn
  obtain ⟨r, hr⟩ := div_nb (y := FloatKind.f64.nearest (L.length : Int)) (sums_nb h) ⟨false, m, i, h1, fun hm => by
    rw [hm, Nat.zero_mul] at h2
    have := Nat.mul_pos hn U_pos
    omega⟩
  unfold mean
  rw [hr]; rfl
theorem fk_fine (l : List Nat) (k : Nat) : ∀ x ∈ fk l k, fine x = true := fun x hx => (List.mem_filter.1 hx).2
theorem take_fine {L : List Nat} (h : ∀ x ∈ L, fine x = true) (k : Nat) : ∀ x ∈ L.take k, fine x = true := fun x hx => h x (List.mem_of_mem_take hx)
theorem gmean_ev (d : Nat) (l : List Nat) (hl : l.length ≤ 60) : evF Try.prog env xf (d+5) 19 [.sl .ro cF (fl l)] = some (if (fk l l.length).length = 0 then .tcons (.d (dF 0)) (.tcons (.d (.s (.bool (false)))) .tnil) else .tcons (.d (dF (mean (fk l l.length)))) (.tcons (.d (.s (.bool (true)))) .tnil)) := by
  have hf := fines_ev d l hl
  have hF := fk_fine l l.length
  have hle := fk_len l l.length
  rw [evF_eq Try.func19 (show Try.f19.body = some _ from rfl) rfl rfl rfl (by show 1 ≤ 28; decide)]
  generalize fk l l.length = F at *
  have hlF := fl_len F
  by_cases hz : F.length = 0
  · have z1 : ((F.length : Int) == 0) = true := by rw [beq_iff_eq]; omega
    rw [if_pos hz]
    simp (decide := true) only [hf, hlF, z1, Try.f19, rid, kl19_6, ↓sBp, sBq, List.all_cons, List.all_nil, List.map_cons, List.map_nil, D.shape, Sh.sub, Sh.size, List.getElem?_cons_zero, List.getElem?_cons_succ, Option.bind_some, Option.bind_none, Option.getD_some, Option.getD_none, V.keysIn, V.kill, V.has, decide_eq_true_eq, beq_iff_eq, bne_iff_ne, ne_eq, Bool.not_eq_true', Bool.and_true, Bool.and_self, Bool.true_and, if_true, if_false, reduceIte, Bool.false_eq_true, decide_true, decide_false, beq_self_eq_true, Bool.not_true, Bool.not_false, true_and, and_true, and_self, List.append_assoc, List.nil_append, List.cons_append, Int.toNat_natCast, ck, Int.cast_ofNat_Int, Int.reduceToNat, bne_self_eq_false, Bool.or_false, Bool.false_or, Bool.false_and, Bool.and_false, Bool.or_true, Bool.true_or]
  · have z1 : ((F.length : Int) == 0) = false := by rw [beq_eq_false_iff_ne]; omega
    rw [if_neg hz]
    simp (decide := true) only [hf, hlF, z1, Try.f19, rid, kl19_6, ↓sBp, sBq, List.all_cons, List.all_nil, List.map_cons, List.map_nil, D.shape, Sh.sub, Sh.size, List.getElem?_cons_zero, List.getElem?_cons_succ, Option.bind_some, Option.bind_none, Option.getD_some, Option.getD_none, V.keysIn, V.kill, V.has, decide_eq_true_eq, beq_iff_eq, bne_iff_ne, ne_eq, Bool.not_eq_true', Bool.and_true, Bool.and_self, Bool.true_and, if_true, if_false, reduceIte, Bool.false_eq_true, decide_true, decide_false, beq_self_eq_true, Bool.not_true, Bool.not_false, true_and, and_true, and_self, List.append_assoc, List.nil_append, List.cons_append, Int.toNat_natCast, ck, Int.cast_ofNat_Int, Int.reduceToNat, bne_self_eq_false, Bool.or_false, Bool.false_or, Bool.false_and, Bool.and_false, Bool.or_true, Bool.true_or]
    rw [iter_run (S := fun k => ⟨tab .junk [(4, .sl (.tg 9) cF (fl F)), (5, .d (dF (sums (F.take k)))), (13, .sl (.tg 9) cF (fl F)), (14, .d (.s (.int .i64 (F.length)))), (15, .d (.s (.int .i64 (k))))], tab none [(9, some .row)]⟩) (n := F.length) (h0 := ?h0) (hn := ?hn) (step := ?step)]
    case hn => exact lt_loopFuel (by omega)
    case h0 => rfl
    case step =>
      intro k hk
      have h1 : (k : Int) < (F.length : Int) := by omega
      have h0 := i0 k
      have hw := wrap_succ k (by omega)
      have hg := fl_get F k hk
      have ha := sums_add (x := F.getD k 0) (take_fine hF k) (hF _ (by rw [List.getD, List.getElem?_eq_getElem hk]; exact List.getElem_mem hk))
      rw [← take_snoc F hk] at ha
      simp (decide := true) only [h1, h0, hw, hg, fAdd, ha, Try.f19, rid, kl19_6, ↓sBp, sBq, List.all_cons, List.all_nil, List.map_cons, List.map_nil, D.shape, Sh.sub, Sh.size, List.getElem?_cons_zero, List.getElem?_cons_succ, Option.bind_some, Option.bind_none, Option.getD_some, Option.getD_none, V.keysIn, V.kill, V.has, decide_eq_true_eq, beq_iff_eq, bne_iff_ne, ne_eq, Bool.not_eq_true', Bool.and_true, Bool.and_self, Bool.true_and, if_true, if_false, reduceIte, Bool.false_eq_true, decide_true, decide_false, beq_self_eq_true, Bool.not_true, Bool.not_false, true_and, and_true, and_self, List.append_assoc, List.nil_append, List.cons_append, Int.toNat_natCast, ck, Int.cast_ofNat_Int, Int.reduceToNat, bne_self_eq_false, Bool.or_false, Bool.false_or, Bool.false_and, Bool.and_false, Bool.or_true, Bool.true_or]
    have hm := mean_ok hF (by omega) (by omega)
    rw [List.take_length]
    simp (decide := true) only [Int.lt_irrefl, hlF, fDiv, hm, Try.f19, rid, kl19_6, ↓sBp, sBq, List.all_cons, List.all_nil, List.map_cons, List.map_nil, D.shape, Sh.sub, Sh.size, List.getElem?_cons_zero, List.getElem?_cons_succ, Option.bind_some, Option.bind_none, Option.getD_some, Option.getD_none, V.keysIn, V.kill, V.has, decide_eq_true_eq, beq_iff_eq, bne_iff_ne, ne_eq, Bool.not_eq_true', Bool.and_true, Bool.and_self, Bool.true_and, if_true, if_false, reduceIte, Bool.false_eq_true, decide_true, decide_false, beq_self_eq_true, Bool.not_true, Bool.not_false, true_and, and_true, and_self, List.append_assoc, List.nil_append, List.cons_append, Int.toNat_natCast, ck, Int.cast_ofNat_Int, Int.reduceToNat, bne_self_eq_false, Bool.or_false, Bool.false_or, Bool.false_and, Bool.and_false, Bool.or_true, Bool.true_or]
theorem rmean_ev (d : Nat) (l : List Nat) (hl : l.length ≤ 60) : evF Try.prog env xf (d+4) 20 [.sl .ro cF (fl l)] = some (if (fk l l.length).length = 0 then .tcons (.d (dF 0)) (.tcons (.d (.s (.bool (false)))) .tnil) else .tcons (.d (dF (mean (fk l l.length)))) (.tcons (.d (.s (.bool (true)))) .tnil)) := by
  rw [evF_eq Try.func20 (show Try.f20.body = some _ from rfl) rfl rfl rfl (by show 1 ≤ 28; decide)]
  have hlL := fl_len l
  simp (decide := true) only [hlL, Try.f20, rid, kl20_3, ↓sBp, sBq, List.all_cons, List.all_nil, List.map_cons, List.map_nil, D.shape, Sh.sub, Sh.size, List.getElem?_cons_zero, List.getElem?_cons_succ, Option.bind_some, Option.bind_none, Option.getD_some, Option.getD_none, V.keysIn, V.kill, V.has, decide_eq_true_eq, beq_iff_eq, bne_iff_ne, ne_eq, Bool.not_eq_true', Bool.and_true, Bool.and_self, Bool.true_and, if_true, if_false, reduceIte, Bool.false_eq_true, decide_true, decide_false, beq_self_eq_true, Bool.not_true, Bool.not_false, true_and, and_true, and_self, List.append_assoc, List.nil_append, List.cons_append, Int.toNat_natCast, ck, Int.cast_ofNat_Int, Int.reduceToNat, bne_self_eq_false, Bool.or_false, Bool.false_or, Bool.false_and, Bool.and_false, Bool.or_true, Bool.true_or]
  rw [iter_run (S := fun k => ⟨tab .junk [(4, .d (dF (sums (fk l k)))), (5, .d (.s (.int .i64 ((fk l k).length)))), (8, .sl .ro cF (fl l)), (9, .d (.s (.int .i64 (l.length)))), (10, .d (.s (.int .i64 (k))))], tab none []⟩) (n := l.length) (h0 := ?h0) (hn := ?hn) (step := ?step)]
  case hn => exact lt_loopFuel (by omega)
  case h0 => rfl
  case step =>
    intro k hk
    have h1 : (k : Int) < (l.length : Int) := by omega
    have h0 := i0 k
    have hw := wrap_succ k (by omega)
    have hg := fl_get l k hk
    rcases Bool.eq_false_or_eq_true (fine (l.getD k 0)) with h | h
    · have e := fk_yes l hk h
      have ha := sums_add (fk_fine l k) h
      rw [← e] at ha
      have hle := fk_len l k
      have e2 : (fk l (k + 1)).length = (fk l k).length + 1 := by rw [e, List.length_append]; rfl
      have hw2 := wrap_succ (fk l k).length (by omega)
      simp (decide := true) only [h1, h0, hw, hg, rfine_ev, h, fAdd, ha, hw2, e2, Try.f20, rid, kl20_3, ↓sBp, sBq, List.all_cons, List.all_nil, List.map_cons, List.map_nil, D.shape, Sh.sub, Sh.size, List.getElem?_cons_zero, List.getElem?_cons_succ, Option.bind_some, Option.bind_none, Option.getD_some, Option.getD_none, V.keysIn, V.kill, V.has, decide_eq_true_eq, beq_iff_eq, bne_iff_ne, ne_eq, Bool.not_eq_true', Bool.and_true, Bool.and_self, Bool.true_and, if_true, if_false, reduceIte, Bool.false_eq_true, decide_true, decide_false, beq_self_eq_true, Bool.not_true, Bool.not_false, true_and, and_true, and_self, List.append_assoc, List.nil_append, List.cons_append, Int.toNat_natCast, ck, Int.cast_ofNat_Int, Int.reduceToNat, bne_self_eq_false, Bool.or_false, Bool.false_or, Bool.false_and, Bool.and_false, Bool.or_true, Bool.true_or]
    · have e := fk_no l hk h
      simp (decide := true) only [h1, h0, hw, hg, rfine_ev, h, e, Try.f20, rid, kl20_3, ↓sBp, sBq, List.all_cons, List.all_nil, List.map_cons, List.map_nil, D.shape, Sh.sub, Sh.size, List.getElem?_cons_zero, List.getElem?_cons_succ, Option.bind_some, Option.bind_none, Option.getD_some, Option.getD_none, V.keysIn, V.kill, V.has, decide_eq_true_eq, beq_iff_eq, bne_iff_ne, ne_eq, Bool.not_eq_true', Bool.and_true, Bool.and_self, Bool.true_and, if_true, if_false, reduceIte, Bool.false_eq_true, decide_true, decide_false, beq_self_eq_true, Bool.not_true, Bool.not_false, true_and, and_true, and_self, List.append_assoc, List.nil_append, List.cons_append, Int.toNat_natCast, ck, Int.cast_ofNat_Int, Int.reduceToNat, bne_self_eq_false, Bool.or_false, Bool.false_or, Bool.false_and, Bool.and_false, Bool.or_true, Bool.true_or]
  have hF := fk_fine l l.length
  have hle := fk_len l l.length
  generalize fk l l.length = F at *
  by_cases hz : F.length = 0
  · have z1 : ((F.length : Int) == 0) = true := by rw [beq_iff_eq]; omega
    rw [if_pos hz]
    simp (decide := true) only [Int.lt_irrefl, z1, Try.f20, rid, kl20_3, ↓sBp, sBq, List.all_cons, List.all_nil, List.map_cons, List.map_nil, D.shape, Sh.sub, Sh.size, List.getElem?_cons_zero, List.getElem?_cons_succ, Option.bind_some, Option.bind_none, Option.getD_some, Option.getD_none, V.keysIn, V.kill, V.has, decide_eq_true_eq, beq_iff_eq, bne_iff_ne, ne_eq, Bool.not_eq_true', Bool.and_true, Bool.and_self, Bool.true_and, if_true, if_false, reduceIte, Bool.false_eq_true, decide_true, decide_false, beq_self_eq_true, Bool.not_true, Bool.not_false, true_and, and_true, and_self, List.append_assoc, List.nil_append, List.cons_append, Int.toNat_natCast, ck, Int.cast_ofNat_Int, Int.reduceToNat, bne_self_eq_false, Bool.or_false, Bool.false_or, Bool.false_and, Bool.and_false, Bool.or_true, Bool.true_or]
  · have z1 : ((F.length : Int) == 0) = false := by rw [beq_eq_false_iff_ne]; omega
    rw [if_neg hz]
    have hm := mean_ok hF (by omega) (by omega)
    simp (decide := true) only [Int.lt_irrefl, z1, fDiv, hm, Try.f20, rid, kl20_3, ↓sBp, sBq, List.all_cons, List.all_nil, List.map_cons, List.map_nil, D.shape, Sh.sub, Sh.size, List.getElem?_cons_zero, List.getElem?_cons_succ, Option.bind_some, Option.bind_none, Option.getD_some, Option.getD_none, V.keysIn, V.kill, V.has, decide_eq_true_eq, beq_iff_eq, bne_iff_ne, ne_eq, Bool.not_eq_true', Bool.and_true, Bool.and_self, Bool.true_and, if_true, if_false, reduceIte, Bool.false_eq_true, decide_true, decide_false, beq_self_eq_true, Bool.not_true, Bool.not_false, true_and, and_true, and_self, List.append_assoc, List.nil_append, List.cons_append, Int.toNat_natCast, ck, Int.cast_ofNat_Int, Int.reduceToNat, bne_self_eq_false, Bool.or_false, Bool.false_or, Bool.false_and, Bool.and_false, Bool.or_true, Bool.true_or]
end Go.Proofs.Ytfmbchnejelpkaa.Ev
