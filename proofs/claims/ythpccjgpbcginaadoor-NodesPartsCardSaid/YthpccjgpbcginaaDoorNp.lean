/- The least, greatest, next node, and subsets: what the functions compute. -/
import Derived.Test.YthpccjgpbcginaaDoorXz
import Derived.Test.YthpccjgpbcginaaDoorSz
namespace Go.Proofs.YthpccjgpbcginaaDoor.Ev
open Go
attribute [local congr] ob_congr sq_congr cd_congr ite_congr1 iter_congr it1_congr jumps_congr
set_option maxRecDepth 100000
set_option linter.unusedSimpArgs false
set_option linter.unusedVariables false
theorem has_z (k : Nat) (s n : Int) : evF Tryd.prog env xz (k+2) 13 [.d (.s (.int .i64 (s))), .d (.s (.int .i64 (n)))] = some (.d (.s (.bool (has s n)))) := up_z (has_ev k s n)
theorem rhas_z (k : Nat) (s n : Int) : evF Tryd.prog env xz (k+2) 16 [.d (.s (.int .i64 (s))), .d (.s (.int .i64 (n)))] = some (.d (.s (.bool (has s n)))) := up_z (rhas_ev k s n)
theorem list_z (k : Nat) (s : Int) : evF Tryd.prog env xz (k+3) 12 [.d (.s (.int .i64 (s)))] = some (.sl .ro cI (ints (listTo s 16))) := up_z (list_ev k s)
theorem evF_ext {n f : Nat} {l : List V} {r : V} (h : xz f l = some r) : evF Tryd.prog env xz (n + 1) f l = some r := by
  simp only [evF, h]
theorem xz_tz {n : Int} (h : 0 ≤ n ∧ n < 18446744073709551616) : xz 25 [.d (.s (.int .u64 n))] = some (.d (.s (.int .i64 (((Lib.ctz 64 n.toNat : Nat) : Int))))) := by
  show (if 0 ≤ n ∧ n < 18446744073709551616 then some (V.d (D.s (.int .i64 ((Lib.ctz 64 n.toNat : Nat) : Int)))) else none) = _
  rw [if_pos h]
theorem xz_ln {n : Int} (h : 0 ≤ n ∧ n < 18446744073709551616) : xz 28 [.d (.s (.int .u64 n))] = some (.d (.s (.int .i64 (((Lib.bitLen n.toNat : Nat) : Int))))) := by
  show (if 0 ≤ n ∧ n < 18446744073709551616 then some (V.d (D.s (.int .i64 ((Lib.bitLen n.toNat : Nat) : Int)))) else none) = _
  rw [if_pos h]
theorem tz_ev (k S : Nat) (hS : S < 65536) : evF Tryd.prog env xz (k+1) 25 [.d (.s (.int .u64 (S : Int)))] = some (.d (.s (.int .i64 ((Lib.ctz 64 S : Nat))))) := by
  have h := xz_tz (n := (S : Int)) (by omega)
  rw [Int.toNat_natCast] at h
  exact evF_ext h
theorem len_ev (k S : Nat) (hS : S < 65536) : evF Tryd.prog env xz (k+1) 28 [.d (.s (.int .u64 (S : Int)))] = some (.d (.s (.int .i64 ((Lib.bitLen S : Nat))))) := by
  have h := xz_ln (n := (S : Int)) (by omega)
  rw [Int.toNat_natCast] at h
  exact evF_ext h
theorem wrapU (S : Nat) (hS : S < 65536) : IntKind.u64.wrap (S : Int) = S := IntWalk.u64_in _ (by omega)
theorem tzs_ev (k S : Nat) (hS : S < 65536) : evF Tryd.prog env xz (k+2) 15 [.d (.s (.int .u64 (S : Int)))] = some (.d (.s (.int .i64 ((Lib.ctz 64 S : Nat))))) := by
  rw [evF_eq Tryd.func15 (show Tryd.f15.body = some _ from rfl) rfl rfl (by show 1 ≤ 8; decide)]
  have e := fun K => tz_ev K S hS
  simp (decide := true) only [e, Tryd.f15, rid, ↓sBp, sBq, List.all_cons, List.all_nil, List.map_cons, List.map_nil, D.shape, Sh.sub, Sh.size, List.getElem?_cons_zero, List.getElem?_cons_succ, Option.bind_some, Option.bind_none, Option.getD_some, Option.getD_none, V.keysIn, V.kill, V.has, decide_eq_true_eq, beq_iff_eq, bne_iff_ne, ne_eq, Bool.not_eq_true', Bool.and_true, Bool.and_self, Bool.true_and, if_true, if_false, reduceIte, Bool.false_eq_true, decide_true, decide_false, beq_self_eq_true, Bool.not_true, Bool.not_false, true_and, and_true, and_self, List.append_assoc, List.nil_append, List.cons_append, Int.toNat_natCast, ck, Int.cast_ofNat_Int, Int.reduceToNat, bne_self_eq_false, Bool.or_false, Bool.false_or, Bool.false_and, Bool.and_false, Bool.or_true, Bool.true_or]
theorem lens_ev (k S : Nat) (hS : S < 65536) : evF Tryd.prog env xz (k+2) 17 [.d (.s (.int .u64 (S : Int)))] = some (.d (.s (.int .i64 ((Lib.bitLen S : Nat))))) := by
  rw [evF_eq Tryd.func17 (show Tryd.f17.body = some _ from rfl) rfl rfl (by show 1 ≤ 8; decide)]
  have e := fun K => len_ev K S hS
  simp (decide := true) only [e, Tryd.f17, rid, ↓sBp, sBq, List.all_cons, List.all_nil, List.map_cons, List.map_nil, D.shape, Sh.sub, Sh.size, List.getElem?_cons_zero, List.getElem?_cons_succ, Option.bind_some, Option.bind_none, Option.getD_some, Option.getD_none, V.keysIn, V.kill, V.has, decide_eq_true_eq, beq_iff_eq, bne_iff_ne, ne_eq, Bool.not_eq_true', Bool.and_true, Bool.and_self, Bool.true_and, if_true, if_false, reduceIte, Bool.false_eq_true, decide_true, decide_false, beq_self_eq_true, Bool.not_true, Bool.not_false, true_and, and_true, and_self, List.append_assoc, List.nil_append, List.cons_append, Int.toNat_natCast, ck, Int.cast_ofNat_Int, Int.reduceToNat, bne_self_eq_false, Bool.or_false, Bool.false_or, Bool.false_and, Bool.and_false, Bool.or_true, Bool.true_or]
def lowV (S : Nat) : Int := if S = 0 then -1 else (Lib.ctz 64 S : Nat)
def highV (S : Nat) : Int := IntKind.i64.wrap ((Lib.bitLen S : Nat) - 1)
theorem lowest_ev (k : Nat) (set : Int) : evF Tryd.prog env xz (k+3) 6 [.d (.s (.int .i64 (set)))] = some (.d (.s (.int .i64 (lowV (lowN set))))) := by
  rw [evF_eq Tryd.func6 (show Tryd.f6.body = some _ from rfl) rfl rfl (by show 1 ≤ 10; decide)]
  have e := lowN_eq set
  have hlt := lowN_lt set
  generalize lowN set = S at *
  have w := wrapU S hlt
  have t := fun K => tzs_ev K S hlt
  unfold lowV
  by_cases h : S = 0
  · have h' : (((S : Int)) == 0) = true := by rw [beq_iff_eq]; omega
    simp (decide := true) only [e, h', h, Tryd.f6, rid, ↓sBp, sBq, List.all_cons, List.all_nil, List.map_cons, List.map_nil, D.shape, Sh.sub, Sh.size, List.getElem?_cons_zero, List.getElem?_cons_succ, Option.bind_some, Option.bind_none, Option.getD_some, Option.getD_none, V.keysIn, V.kill, V.has, decide_eq_true_eq, beq_iff_eq, bne_iff_ne, ne_eq, Bool.not_eq_true', Bool.and_true, Bool.and_self, Bool.true_and, if_true, if_false, reduceIte, Bool.false_eq_true, decide_true, decide_false, beq_self_eq_true, Bool.not_true, Bool.not_false, true_and, and_true, and_self, List.append_assoc, List.nil_append, List.cons_append, Int.toNat_natCast, ck, Int.cast_ofNat_Int, Int.reduceToNat, bne_self_eq_false, Bool.or_false, Bool.false_or, Bool.false_and, Bool.and_false, Bool.or_true, Bool.true_or]
  · have h' : (((S : Int)) == 0) = false := by rw [beq_eq_false_iff_ne]; omega
    simp (decide := true) only [e, h', h, w, t, Tryd.f6, rid, ↓sBp, sBq, List.all_cons, List.all_nil, List.map_cons, List.map_nil, D.shape, Sh.sub, Sh.size, List.getElem?_cons_zero, List.getElem?_cons_succ, Option.bind_some, Option.bind_none, Option.getD_some, Option.getD_none, V.keysIn, V.kill, V.has, decide_eq_true_eq, beq_iff_eq, bne_iff_ne, ne_eq, Bool.not_eq_true', Bool.and_true, Bool.and_self, Bool.true_and, if_true, if_false, reduceIte, Bool.false_eq_true, decide_true, decide_false, beq_self_eq_true, Bool.not_true, Bool.not_false, true_and, and_true, and_self, List.append_assoc, List.nil_append, List.cons_append, Int.toNat_natCast, ck, Int.cast_ofNat_Int, Int.reduceToNat, bne_self_eq_false, Bool.or_false, Bool.false_or, Bool.false_and, Bool.and_false, Bool.or_true, Bool.true_or]
theorem highest_ev (k : Nat) (set : Int) : evF Tryd.prog env xz (k+3) 8 [.d (.s (.int .i64 (set)))] = some (.d (.s (.int .i64 (highV (lowN set))))) := by
  rw [evF_eq Tryd.func8 (show Tryd.f8.body = some _ from rfl) rfl rfl (by show 1 ≤ 8; decide)]
  have e := lowN_eq set
  have hlt := lowN_lt set
  generalize lowN set = S at *
  have w := wrapU S hlt
  have t := fun K => lens_ev K S hlt
  simp (decide := true) only [e, w, t, highV, Tryd.f8, rid, ↓sBp, sBq, List.all_cons, List.all_nil, List.map_cons, List.map_nil, D.shape, Sh.sub, Sh.size, List.getElem?_cons_zero, List.getElem?_cons_succ, Option.bind_some, Option.bind_none, Option.getD_some, Option.getD_none, V.keysIn, V.kill, V.has, decide_eq_true_eq, beq_iff_eq, bne_iff_ne, ne_eq, Bool.not_eq_true', Bool.and_true, Bool.and_self, Bool.true_and, if_true, if_false, reduceIte, Bool.false_eq_true, decide_true, decide_false, beq_self_eq_true, Bool.not_true, Bool.not_false, true_and, and_true, and_self, List.append_assoc, List.nil_append, List.cons_append, Int.toNat_natCast, ck, Int.cast_ofNat_Int, Int.reduceToNat, bne_self_eq_false, Bool.or_false, Bool.false_or, Bool.false_and, Bool.and_false, Bool.or_true, Bool.true_or]
/- The document's, by turns. -/
theorem rlowest_some (d : Nat) (set : Int) {m : Nat} (hm : m < 16) (h : has set m = true) (hn : ∀ i, i < m → has set (i : Nat) = false) : evF Tryd.prog env xz (d+3) 7 [.d (.s (.int .i64 (set)))] = some (.d (.s (.int .i64 ((m : Int))))) := by
  rw [evF_eq Tryd.func7 (show Tryd.f7.body = some _ from rfl) rfl rfl (by show 1 ≤ 12; decide)]
  simp (decide := true) only [Tryd.f7, rid, kl7_2, ↓sBp, sBq, List.all_cons, List.all_nil, List.map_cons, List.map_nil, D.shape, Sh.sub, Sh.size, List.getElem?_cons_zero, List.getElem?_cons_succ, Option.bind_some, Option.bind_none, Option.getD_some, Option.getD_none, V.keysIn, V.kill, V.has, decide_eq_true_eq, beq_iff_eq, bne_iff_ne, ne_eq, Bool.not_eq_true', Bool.and_true, Bool.and_self, Bool.true_and, if_true, if_false, reduceIte, Bool.false_eq_true, decide_true, decide_false, beq_self_eq_true, Bool.not_true, Bool.not_false, true_and, and_true, and_self, List.append_assoc, List.nil_append, List.cons_append, Int.toNat_natCast, ck, Int.cast_ofNat_Int, Int.reduceToNat, bne_self_eq_false, Bool.or_false, Bool.false_or, Bool.false_and, Bool.and_false, Bool.or_true, Bool.true_or]
  rw [iter_run (S := fun k => ⟨tab .junk [(0, .d (.s (.int .i64 (set)))), (4, .d (.s (.int .i64 (k))))], tab none []⟩) (n := m) (h0 := ?h0) (hn := ?hn) (step := ?step)]
  case hn => exact lt_loopFuel (by omega)
  case h0 => rfl
  case step =>
    intro k hk
    have hk1 : (k : Int) < 16 := by omega
    have hkw := wrap_succ k (by omega)
    have hf := hn k hk
    simp (decide := true) only [hk1, hkw, rhas_z, hf, Tryd.f7, rid, kl7_2, ↓sBp, sBq, List.all_cons, List.all_nil, List.map_cons, List.map_nil, D.shape, Sh.sub, Sh.size, List.getElem?_cons_zero, List.getElem?_cons_succ, Option.bind_some, Option.bind_none, Option.getD_some, Option.getD_none, V.keysIn, V.kill, V.has, decide_eq_true_eq, beq_iff_eq, bne_iff_ne, ne_eq, Bool.not_eq_true', Bool.and_true, Bool.and_self, Bool.true_and, if_true, if_false, reduceIte, Bool.false_eq_true, decide_true, decide_false, beq_self_eq_true, Bool.not_true, Bool.not_false, true_and, and_true, and_self, List.append_assoc, List.nil_append, List.cons_append, Int.toNat_natCast, ck, Int.cast_ofNat_Int, Int.reduceToNat, bne_self_eq_false, Bool.or_false, Bool.false_or, Bool.false_and, Bool.and_false, Bool.or_true, Bool.true_or]
  have hm1 : (m : Int) < 16 := by omega
  simp (decide := true) only [hm1, rhas_z, h, Tryd.f7, rid, kl7_2, ↓sBp, sBq, List.all_cons, List.all_nil, List.map_cons, List.map_nil, D.shape, Sh.sub, Sh.size, List.getElem?_cons_zero, List.getElem?_cons_succ, Option.bind_some, Option.bind_none, Option.getD_some, Option.getD_none, V.keysIn, V.kill, V.has, decide_eq_true_eq, beq_iff_eq, bne_iff_ne, ne_eq, Bool.not_eq_true', Bool.and_true, Bool.and_self, Bool.true_and, if_true, if_false, reduceIte, Bool.false_eq_true, decide_true, decide_false, beq_self_eq_true, Bool.not_true, Bool.not_false, true_and, and_true, and_self, List.append_assoc, List.nil_append, List.cons_append, Int.toNat_natCast, ck, Int.cast_ofNat_Int, Int.reduceToNat, bne_self_eq_false, Bool.or_false, Bool.false_or, Bool.false_and, Bool.and_false, Bool.or_true, Bool.true_or]
theorem rlowest_none (d : Nat) (set : Int) (hn : ∀ i, i < 16 → has set (i : Nat) = false) : evF Tryd.prog env xz (d+3) 7 [.d (.s (.int .i64 (set)))] = some (.d (.s (.int .i64 (-1)))) := by
  rw [evF_eq Tryd.func7 (show Tryd.f7.body = some _ from rfl) rfl rfl (by show 1 ≤ 12; decide)]
  simp (decide := true) only [Tryd.f7, rid, kl7_2, ↓sBp, sBq, List.all_cons, List.all_nil, List.map_cons, List.map_nil, D.shape, Sh.sub, Sh.size, List.getElem?_cons_zero, List.getElem?_cons_succ, Option.bind_some, Option.bind_none, Option.getD_some, Option.getD_none, V.keysIn, V.kill, V.has, decide_eq_true_eq, beq_iff_eq, bne_iff_ne, ne_eq, Bool.not_eq_true', Bool.and_true, Bool.and_self, Bool.true_and, if_true, if_false, reduceIte, Bool.false_eq_true, decide_true, decide_false, beq_self_eq_true, Bool.not_true, Bool.not_false, true_and, and_true, and_self, List.append_assoc, List.nil_append, List.cons_append, Int.toNat_natCast, ck, Int.cast_ofNat_Int, Int.reduceToNat, bne_self_eq_false, Bool.or_false, Bool.false_or, Bool.false_and, Bool.and_false, Bool.or_true, Bool.true_or]
  rw [iter_run (S := fun k => ⟨tab .junk [(0, .d (.s (.int .i64 (set)))), (4, .d (.s (.int .i64 (k))))], tab none []⟩) (n := 16) (h0 := ?h0) (hn := lt_loopFuel (by decide)) (step := ?step)]
  case h0 => rfl
  case step =>
    intro k hk
    have hk1 : (k : Int) < 16 := by omega
    have hk0 : (0 : Int) ≤ k := by omega
    have hkw := wrap_succ k (by omega)
    have hf := hn k hk
    simp (decide := true) only [hk1, hkw, rhas_z, hf, Tryd.f7, rid, kl7_2, ↓sBp, sBq, List.all_cons, List.all_nil, List.map_cons, List.map_nil, D.shape, Sh.sub, Sh.size, List.getElem?_cons_zero, List.getElem?_cons_succ, Option.bind_some, Option.bind_none, Option.getD_some, Option.getD_none, V.keysIn, V.kill, V.has, decide_eq_true_eq, beq_iff_eq, bne_iff_ne, ne_eq, Bool.not_eq_true', Bool.and_true, Bool.and_self, Bool.true_and, if_true, if_false, reduceIte, Bool.false_eq_true, decide_true, decide_false, beq_self_eq_true, Bool.not_true, Bool.not_false, true_and, and_true, and_self, List.append_assoc, List.nil_append, List.cons_append, Int.toNat_natCast, ck, Int.cast_ofNat_Int, Int.reduceToNat, bne_self_eq_false, Bool.or_false, Bool.false_or, Bool.false_and, Bool.and_false, Bool.or_true, Bool.true_or]
  simp (decide := true) only [Tryd.f7, rid, kl7_2, ↓sBp, sBq, List.all_cons, List.all_nil, List.map_cons, List.map_nil, D.shape, Sh.sub, Sh.size, List.getElem?_cons_zero, List.getElem?_cons_succ, Option.bind_some, Option.bind_none, Option.getD_some, Option.getD_none, V.keysIn, V.kill, V.has, decide_eq_true_eq, beq_iff_eq, bne_iff_ne, ne_eq, Bool.not_eq_true', Bool.and_true, Bool.and_self, Bool.true_and, if_true, if_false, reduceIte, Bool.false_eq_true, decide_true, decide_false, beq_self_eq_true, Bool.not_true, Bool.not_false, true_and, and_true, and_self, List.append_assoc, List.nil_append, List.cons_append, Int.toNat_natCast, ck, Int.cast_ofNat_Int, Int.reduceToNat, bne_self_eq_false, Bool.or_false, Bool.false_or, Bool.false_and, Bool.and_false, Bool.or_true, Bool.true_or]
theorem rhighest_some (d : Nat) (set : Int) {m : Nat} (hm : m < 16) (h : has set m = true) (hn : ∀ i, m < i → i < 16 → has set (i : Nat) = false) : evF Tryd.prog env xz (d+3) 9 [.d (.s (.int .i64 (set)))] = some (.d (.s (.int .i64 ((m : Int))))) := by
  rw [evF_eq Tryd.func9 (show Tryd.f9.body = some _ from rfl) rfl rfl (by show 1 ≤ 12; decide)]
  simp (decide := true) only [Tryd.f9, rid, kl9_2, ↓sBp, sBq, List.all_cons, List.all_nil, List.map_cons, List.map_nil, D.shape, Sh.sub, Sh.size, List.getElem?_cons_zero, List.getElem?_cons_succ, Option.bind_some, Option.bind_none, Option.getD_some, Option.getD_none, V.keysIn, V.kill, V.has, decide_eq_true_eq, beq_iff_eq, bne_iff_ne, ne_eq, Bool.not_eq_true', Bool.and_true, Bool.and_self, Bool.true_and, if_true, if_false, reduceIte, Bool.false_eq_true, decide_true, decide_false, beq_self_eq_true, Bool.not_true, Bool.not_false, true_and, and_true, and_self, List.append_assoc, List.nil_append, List.cons_append, Int.toNat_natCast, ck, Int.cast_ofNat_Int, Int.reduceToNat, bne_self_eq_false, Bool.or_false, Bool.false_or, Bool.false_and, Bool.and_false, Bool.or_true, Bool.true_or]
  rw [iter_run (S := fun k => ⟨tab .junk [(0, .d (.s (.int .i64 (set)))), (3, .d (.s (.int .i64 (15 - (k : Int)))))], tab none []⟩) (n := 15 - m) (h0 := ?h0) (hn := ?hn) (step := ?step)]
  case hn => exact lt_loopFuel (by omega)
  case h0 => rfl
  case step =>
    intro k hk
    have hk1 : (0 : Int) ≤ 15 - (k : Int) := by omega
    have hkw : IntKind.i64.wrap (15 - (k : Int) - 1) = 15 - ((k + 1 : Nat) : Int) := by rw [IntWalk.i64_in _ (by omega)]; omega
    have hf := hn (15 - k) (by omega) (by omega)
    rw [show ((15 - k : Nat) : Int) = 15 - (k : Int) by omega] at hf
    simp (decide := true) only [hk1, hkw, rhas_z, hf, Tryd.f9, rid, kl9_2, ↓sBp, sBq, List.all_cons, List.all_nil, List.map_cons, List.map_nil, D.shape, Sh.sub, Sh.size, List.getElem?_cons_zero, List.getElem?_cons_succ, Option.bind_some, Option.bind_none, Option.getD_some, Option.getD_none, V.keysIn, V.kill, V.has, decide_eq_true_eq, beq_iff_eq, bne_iff_ne, ne_eq, Bool.not_eq_true', Bool.and_true, Bool.and_self, Bool.true_and, if_true, if_false, reduceIte, Bool.false_eq_true, decide_true, decide_false, beq_self_eq_true, Bool.not_true, Bool.not_false, true_and, and_true, and_self, List.append_assoc, List.nil_append, List.cons_append, Int.toNat_natCast, ck, Int.cast_ofNat_Int, Int.reduceToNat, bne_self_eq_false, Bool.or_false, Bool.false_or, Bool.false_and, Bool.and_false, Bool.or_true, Bool.true_or]
  have e : (15 : Int) - ((15 - m : Nat) : Int) = m := by omega
  have hm1 : (0 : Int) ≤ (m : Int) := by omega
  simp (decide := true) only [e, hm1, rhas_z, h, Tryd.f9, rid, kl9_2, ↓sBp, sBq, List.all_cons, List.all_nil, List.map_cons, List.map_nil, D.shape, Sh.sub, Sh.size, List.getElem?_cons_zero, List.getElem?_cons_succ, Option.bind_some, Option.bind_none, Option.getD_some, Option.getD_none, V.keysIn, V.kill, V.has, decide_eq_true_eq, beq_iff_eq, bne_iff_ne, ne_eq, Bool.not_eq_true', Bool.and_true, Bool.and_self, Bool.true_and, if_true, if_false, reduceIte, Bool.false_eq_true, decide_true, decide_false, beq_self_eq_true, Bool.not_true, Bool.not_false, true_and, and_true, and_self, List.append_assoc, List.nil_append, List.cons_append, Int.toNat_natCast, ck, Int.cast_ofNat_Int, Int.reduceToNat, bne_self_eq_false, Bool.or_false, Bool.false_or, Bool.false_and, Bool.and_false, Bool.or_true, Bool.true_or]
theorem rhighest_none (d : Nat) (set : Int) (hn : ∀ i, i < 16 → has set (i : Nat) = false) : evF Tryd.prog env xz (d+3) 9 [.d (.s (.int .i64 (set)))] = some (.d (.s (.int .i64 (-1)))) := by
  rw [evF_eq Tryd.func9 (show Tryd.f9.body = some _ from rfl) rfl rfl (by show 1 ≤ 12; decide)]
  simp (decide := true) only [Tryd.f9, rid, kl9_2, ↓sBp, sBq, List.all_cons, List.all_nil, List.map_cons, List.map_nil, D.shape, Sh.sub, Sh.size, List.getElem?_cons_zero, List.getElem?_cons_succ, Option.bind_some, Option.bind_none, Option.getD_some, Option.getD_none, V.keysIn, V.kill, V.has, decide_eq_true_eq, beq_iff_eq, bne_iff_ne, ne_eq, Bool.not_eq_true', Bool.and_true, Bool.and_self, Bool.true_and, if_true, if_false, reduceIte, Bool.false_eq_true, decide_true, decide_false, beq_self_eq_true, Bool.not_true, Bool.not_false, true_and, and_true, and_self, List.append_assoc, List.nil_append, List.cons_append, Int.toNat_natCast, ck, Int.cast_ofNat_Int, Int.reduceToNat, bne_self_eq_false, Bool.or_false, Bool.false_or, Bool.false_and, Bool.and_false, Bool.or_true, Bool.true_or]
  rw [iter_run (S := fun k => ⟨tab .junk [(0, .d (.s (.int .i64 (set)))), (3, .d (.s (.int .i64 (15 - (k : Int)))))], tab none []⟩) (n := 16) (h0 := ?h0) (hn := lt_loopFuel (by decide)) (step := ?step)]
  case h0 => rfl
  case step =>
    intro k hk
    have hk1 : (0 : Int) ≤ 15 - (k : Int) := by omega
    have hkw : IntKind.i64.wrap (15 - (k : Int) - 1) = 15 - ((k + 1 : Nat) : Int) := by rw [IntWalk.i64_in _ (by omega)]; omega
    have hf := hn (15 - k) (by omega)
    rw [show ((15 - k : Nat) : Int) = 15 - (k : Int) by omega] at hf
    simp (decide := true) only [hk1, hkw, rhas_z, hf, Tryd.f9, rid, kl9_2, ↓sBp, sBq, List.all_cons, List.all_nil, List.map_cons, List.map_nil, D.shape, Sh.sub, Sh.size, List.getElem?_cons_zero, List.getElem?_cons_succ, Option.bind_some, Option.bind_none, Option.getD_some, Option.getD_none, V.keysIn, V.kill, V.has, decide_eq_true_eq, beq_iff_eq, bne_iff_ne, ne_eq, Bool.not_eq_true', Bool.and_true, Bool.and_self, Bool.true_and, if_true, if_false, reduceIte, Bool.false_eq_true, decide_true, decide_false, beq_self_eq_true, Bool.not_true, Bool.not_false, true_and, and_true, and_self, List.append_assoc, List.nil_append, List.cons_append, Int.toNat_natCast, ck, Int.cast_ofNat_Int, Int.reduceToNat, bne_self_eq_false, Bool.or_false, Bool.false_or, Bool.false_and, Bool.and_false, Bool.or_true, Bool.true_or]
  have e : ¬ (0 : Int) ≤ 15 - ((16 : Nat) : Int) := by omega
  simp (decide := true) only [e, Tryd.f9, rid, kl9_2, ↓sBp, sBq, List.all_cons, List.all_nil, List.map_cons, List.map_nil, D.shape, Sh.sub, Sh.size, List.getElem?_cons_zero, List.getElem?_cons_succ, Option.bind_some, Option.bind_none, Option.getD_some, Option.getD_none, V.keysIn, V.kill, V.has, decide_eq_true_eq, beq_iff_eq, bne_iff_ne, ne_eq, Bool.not_eq_true', Bool.and_true, Bool.and_self, Bool.true_and, if_true, if_false, reduceIte, Bool.false_eq_true, decide_true, decide_false, beq_self_eq_true, Bool.not_true, Bool.not_false, true_and, and_true, and_self, List.append_assoc, List.nil_append, List.cons_append, Int.toNat_natCast, ck, Int.cast_ofNat_Int, Int.reduceToNat, bne_self_eq_false, Bool.or_false, Bool.false_or, Bool.false_and, Bool.and_false, Bool.or_true, Bool.true_or]
/- The next. -/
theorem and15 (x : Int) : ∃ m : Nat, m < 16 ∧ bits .and .i64 x 15 = (m : Int) := ⟨_, by have := Nat.and_le_right (n := (BitVec.ofInt 64 x).toNat) (m := 15); omega, and_nat x 15 (by decide)⟩
theorem and15_small : ∀ x : Nat, x < 32 → bits .and .i64 (x : Int) 15 = ((x % 16 : Nat) : Int) := by decide
/-- Node at turn k behind m. -/
abbrev atN (m k : Nat) : Int := (((m + (k + 1)) % 16 : Nat) : Int)
theorem next_some (d : Nat) (set n : Int) {m : Nat} (hm : m < 16) (e : bits .and .i64 n 15 = (m : Int)) {q : Nat} (hq : q < 16) (h : has set (atN m q) = true) (hn : ∀ i, i < q → has set (atN m i) = false) :
    evF Tryd.prog env xz (d+3) 10 [.d (.s (.int .i64 (set))), .d (.s (.int .i64 (n)))] = some (.d (.s (.int .i64 (atN m q)))) := by
  rw [evF_eq Tryd.func10 (show Tryd.f10.body = some _ from rfl) rfl rfl (by show 2 ≤ 21; decide)]
  simp (decide := true) only [e, Tryd.f10, rid, kl10_3, ↓sBp, sBq, List.all_cons, List.all_nil, List.map_cons, List.map_nil, D.shape, Sh.sub, Sh.size, List.getElem?_cons_zero, List.getElem?_cons_succ, Option.bind_some, Option.bind_none, Option.getD_some, Option.getD_none, V.keysIn, V.kill, V.has, decide_eq_true_eq, beq_iff_eq, bne_iff_ne, ne_eq, Bool.not_eq_true', Bool.and_true, Bool.and_self, Bool.true_and, if_true, if_false, reduceIte, Bool.false_eq_true, decide_true, decide_false, beq_self_eq_true, Bool.not_true, Bool.not_false, true_and, and_true, and_self, List.append_assoc, List.nil_append, List.cons_append, Int.toNat_natCast, ck, Int.cast_ofNat_Int, Int.reduceToNat, bne_self_eq_false, Bool.or_false, Bool.false_or, Bool.false_and, Bool.and_false, Bool.or_true, Bool.true_or]
  rw [iter_run (S := fun k => ⟨tab .junk [(0, .d (.s (.int .i64 (set)))), (1, .d (.s (.int .i64 ((m : Int))))), (5, .d (.s (.int .i64 ((k : Int) + 1))))], tab none []⟩) (n := q) (h0 := ?h0) (hn := ?hn) (step := ?step)]
  case hn => exact lt_loopFuel (by omega)
  case h0 => rfl
  case step =>
    intro k hk
    have hk1 : (k : Int) + 1 ≤ 16 := by omega
    have hkw : IntKind.i64.wrap ((k : Int) + 1 + 1) = ((k + 1 : Nat) : Int) + 1 := by rw [IntWalk.i64_in _ (by omega)]; omega
    have hw : (IntKind.i64.wrap ((m : Int) + ((k : Int) + 1))).tmod 16 = atN m k := by
      rw [IntWalk.i64_in _ (by omega), Int.tmod_eq_emod_of_nonneg (by omega)]; unfold atN; omega
    have hf := hn k hk
    have h16 : (16 : Int) ≠ 0 := by decide
    simp (decide := true) only [hk1, hkw, hw, h16, has_z, hf, Tryd.f10, rid, kl10_3, ↓sBp, sBq, List.all_cons, List.all_nil, List.map_cons, List.map_nil, D.shape, Sh.sub, Sh.size, List.getElem?_cons_zero, List.getElem?_cons_succ, Option.bind_some, Option.bind_none, Option.getD_some, Option.getD_none, V.keysIn, V.kill, V.has, decide_eq_true_eq, beq_iff_eq, bne_iff_ne, ne_eq, Bool.not_eq_true', Bool.and_true, Bool.and_self, Bool.true_and, if_true, if_false, reduceIte, Bool.false_eq_true, decide_true, decide_false, beq_self_eq_true, Bool.not_true, Bool.not_false, true_and, and_true, and_self, List.append_assoc, List.nil_append, List.cons_append, Int.toNat_natCast, ck, Int.cast_ofNat_Int, Int.reduceToNat, bne_self_eq_false, Bool.or_false, Bool.false_or, Bool.false_and, Bool.and_false, Bool.or_true, Bool.true_or]
  have hk1 : (q : Int) + 1 ≤ 16 := by omega
  have hw : (IntKind.i64.wrap ((m : Int) + ((q : Int) + 1))).tmod 16 = atN m q := by
    rw [IntWalk.i64_in _ (by omega), Int.tmod_eq_emod_of_nonneg (by omega)]; unfold atN; omega
  have h16 : (16 : Int) ≠ 0 := by decide
  simp (decide := true) only [hk1, hw, h16, has_z, h, Tryd.f10, rid, kl10_3, ↓sBp, sBq, List.all_cons, List.all_nil, List.map_cons, List.map_nil, D.shape, Sh.sub, Sh.size, List.getElem?_cons_zero, List.getElem?_cons_succ, Option.bind_some, Option.bind_none, Option.getD_some, Option.getD_none, V.keysIn, V.kill, V.has, decide_eq_true_eq, beq_iff_eq, bne_iff_ne, ne_eq, Bool.not_eq_true', Bool.and_true, Bool.and_self, Bool.true_and, if_true, if_false, reduceIte, Bool.false_eq_true, decide_true, decide_false, beq_self_eq_true, Bool.not_true, Bool.not_false, true_and, and_true, and_self, List.append_assoc, List.nil_append, List.cons_append, Int.toNat_natCast, ck, Int.cast_ofNat_Int, Int.reduceToNat, bne_self_eq_false, Bool.or_false, Bool.false_or, Bool.false_and, Bool.and_false, Bool.or_true, Bool.true_or]
theorem next_none (d : Nat) (set n : Int) {m : Nat} (hm : m < 16) (e : bits .and .i64 n 15 = (m : Int)) (hn : ∀ i, i < 16 → has set (atN m i) = false) :
    evF Tryd.prog env xz (d+3) 10 [.d (.s (.int .i64 (set))), .d (.s (.int .i64 (n)))] = some (.d (.s (.int .i64 (-1)))) := by
  rw [evF_eq Tryd.func10 (show Tryd.f10.body = some _ from rfl) rfl rfl (by show 2 ≤ 21; decide)]
  simp (decide := true) only [e, Tryd.f10, rid, kl10_3, ↓sBp, sBq, List.all_cons, List.all_nil, List.map_cons, List.map_nil, D.shape, Sh.sub, Sh.size, List.getElem?_cons_zero, List.getElem?_cons_succ, Option.bind_some, Option.bind_none, Option.getD_some, Option.getD_none, V.keysIn, V.kill, V.has, decide_eq_true_eq, beq_iff_eq, bne_iff_ne, ne_eq, Bool.not_eq_true', Bool.and_true, Bool.and_self, Bool.true_and, if_true, if_false, reduceIte, Bool.false_eq_true, decide_true, decide_false, beq_self_eq_true, Bool.not_true, Bool.not_false, true_and, and_true, and_self, List.append_assoc, List.nil_append, List.cons_append, Int.toNat_natCast, ck, Int.cast_ofNat_Int, Int.reduceToNat, bne_self_eq_false, Bool.or_false, Bool.false_or, Bool.false_and, Bool.and_false, Bool.or_true, Bool.true_or]
  rw [iter_run (S := fun k => ⟨tab .junk [(0, .d (.s (.int .i64 (set)))), (1, .d (.s (.int .i64 ((m : Int))))), (5, .d (.s (.int .i64 ((k : Int) + 1))))], tab none []⟩) (n := 16) (h0 := ?h0) (hn := lt_loopFuel (by decide)) (step := ?step)]
  case h0 => rfl
  case step =>
    intro k hk
    have hk1 : (k : Int) + 1 ≤ 16 := by omega
    have hkw : IntKind.i64.wrap ((k : Int) + 1 + 1) = ((k + 1 : Nat) : Int) + 1 := by rw [IntWalk.i64_in _ (by omega)]; omega
    have hw : (IntKind.i64.wrap ((m : Int) + ((k : Int) + 1))).tmod 16 = atN m k := by
      rw [IntWalk.i64_in _ (by omega), Int.tmod_eq_emod_of_nonneg (by omega)]; unfold atN; omega
    have hf := hn k hk
    have h16 : (16 : Int) ≠ 0 := by decide
    simp (decide := true) only [hk1, hkw, hw, h16, has_z, hf, Tryd.f10, rid, kl10_3, ↓sBp, sBq, List.all_cons, List.all_nil, List.map_cons, List.map_nil, D.shape, Sh.sub, Sh.size, List.getElem?_cons_zero, List.getElem?_cons_succ, Option.bind_some, Option.bind_none, Option.getD_some, Option.getD_none, V.keysIn, V.kill, V.has, decide_eq_true_eq, beq_iff_eq, bne_iff_ne, ne_eq, Bool.not_eq_true', Bool.and_true, Bool.and_self, Bool.true_and, if_true, if_false, reduceIte, Bool.false_eq_true, decide_true, decide_false, beq_self_eq_true, Bool.not_true, Bool.not_false, true_and, and_true, and_self, List.append_assoc, List.nil_append, List.cons_append, Int.toNat_natCast, ck, Int.cast_ofNat_Int, Int.reduceToNat, bne_self_eq_false, Bool.or_false, Bool.false_or, Bool.false_and, Bool.and_false, Bool.or_true, Bool.true_or]
  have hk1 : ¬ ((16 : Nat) : Int) + 1 ≤ 16 := by omega
  simp (decide := true) only [hk1, Tryd.f10, rid, kl10_3, ↓sBp, sBq, List.all_cons, List.all_nil, List.map_cons, List.map_nil, D.shape, Sh.sub, Sh.size, List.getElem?_cons_zero, List.getElem?_cons_succ, Option.bind_some, Option.bind_none, Option.getD_some, Option.getD_none, V.keysIn, V.kill, V.has, decide_eq_true_eq, beq_iff_eq, bne_iff_ne, ne_eq, Bool.not_eq_true', Bool.and_true, Bool.and_self, Bool.true_and, if_true, if_false, reduceIte, Bool.false_eq_true, decide_true, decide_false, beq_self_eq_true, Bool.not_true, Bool.not_false, true_and, and_true, and_self, List.append_assoc, List.nil_append, List.cons_append, Int.toNat_natCast, ck, Int.cast_ofNat_Int, Int.reduceToNat, bne_self_eq_false, Bool.or_false, Bool.false_or, Bool.false_and, Bool.and_false, Bool.or_true, Bool.true_or]
theorem rnext_some (d : Nat) (set n : Int) {m : Nat} (hm : m < 16) (e : bits .and .i64 n 15 = (m : Int)) {q : Nat} (hq : q < 16) (h : has set (atN m q) = true) (hn : ∀ i, i < q → has set (atN m i) = false) :
    evF Tryd.prog env xz (d+3) 11 [.d (.s (.int .i64 (set))), .d (.s (.int .i64 (n)))] = some (.d (.s (.int .i64 (atN m q)))) := by
  rw [evF_eq Tryd.func11 (show Tryd.f11.body = some _ from rfl) rfl rfl (by show 2 ≤ 20; decide)]
  simp (decide := true) only [Tryd.f11, rid, kl11_2, ↓sBp, sBq, List.all_cons, List.all_nil, List.map_cons, List.map_nil, D.shape, Sh.sub, Sh.size, List.getElem?_cons_zero, List.getElem?_cons_succ, Option.bind_some, Option.bind_none, Option.getD_some, Option.getD_none, V.keysIn, V.kill, V.has, decide_eq_true_eq, beq_iff_eq, bne_iff_ne, ne_eq, Bool.not_eq_true', Bool.and_true, Bool.and_self, Bool.true_and, if_true, if_false, reduceIte, Bool.false_eq_true, decide_true, decide_false, beq_self_eq_true, Bool.not_true, Bool.not_false, true_and, and_true, and_self, List.append_assoc, List.nil_append, List.cons_append, Int.toNat_natCast, ck, Int.cast_ofNat_Int, Int.reduceToNat, bne_self_eq_false, Bool.or_false, Bool.false_or, Bool.false_and, Bool.and_false, Bool.or_true, Bool.true_or]
  rw [iter_run (S := fun k => ⟨tab .junk [(0, .d (.s (.int .i64 (set)))), (1, .d (.s (.int .i64 (n)))), (5, .d (.s (.int .i64 ((k : Int) + 1))))], tab none []⟩) (n := q) (h0 := ?h0) (hn := ?hn) (step := ?step)]
  case hn => exact lt_loopFuel (by omega)
  case h0 => rfl
  case step =>
    intro k hk
    have hk1 : (k : Int) + 1 ≤ 16 := by omega
    have hkw : IntKind.i64.wrap ((k : Int) + 1 + 1) = ((k + 1 : Nat) : Int) + 1 := by rw [IntWalk.i64_in _ (by omega)]; omega
    have hw : bits .and .i64 (IntKind.i64.wrap ((m : Int) + ((k : Int) + 1))) 15 = atN m k := by
      rw [IntWalk.i64_in _ (by omega), show (m : Int) + ((k : Int) + 1) = ((m + (k + 1) : Nat) : Int) by omega]; exact and15_small _ (by omega)
    have hf := hn k hk
    simp (decide := true) only [hk1, hkw, e, hw, rhas_z, hf, Tryd.f11, rid, kl11_2, ↓sBp, sBq, List.all_cons, List.all_nil, List.map_cons, List.map_nil, D.shape, Sh.sub, Sh.size, List.getElem?_cons_zero, List.getElem?_cons_succ, Option.bind_some, Option.bind_none, Option.getD_some, Option.getD_none, V.keysIn, V.kill, V.has, decide_eq_true_eq, beq_iff_eq, bne_iff_ne, ne_eq, Bool.not_eq_true', Bool.and_true, Bool.and_self, Bool.true_and, if_true, if_false, reduceIte, Bool.false_eq_true, decide_true, decide_false, beq_self_eq_true, Bool.not_true, Bool.not_false, true_and, and_true, and_self, List.append_assoc, List.nil_append, List.cons_append, Int.toNat_natCast, ck, Int.cast_ofNat_Int, Int.reduceToNat, bne_self_eq_false, Bool.or_false, Bool.false_or, Bool.false_and, Bool.and_false, Bool.or_true, Bool.true_or]
  have hk1 : (q : Int) + 1 ≤ 16 := by omega
  have hw : bits .and .i64 (IntKind.i64.wrap ((m : Int) + ((q : Int) + 1))) 15 = atN m q := by
    rw [IntWalk.i64_in _ (by omega), show (m : Int) + ((q : Int) + 1) = ((m + (q + 1) : Nat) : Int) by omega]; exact and15_small _ (by omega)
  simp (decide := true) only [hk1, e, hw, rhas_z, h, Tryd.f11, rid, kl11_2, ↓sBp, sBq, List.all_cons, List.all_nil, List.map_cons, List.map_nil, D.shape, Sh.sub, Sh.size, List.getElem?_cons_zero, List.getElem?_cons_succ, Option.bind_some, Option.bind_none, Option.getD_some, Option.getD_none, V.keysIn, V.kill, V.has, decide_eq_true_eq, beq_iff_eq, bne_iff_ne, ne_eq, Bool.not_eq_true', Bool.and_true, Bool.and_self, Bool.true_and, if_true, if_false, reduceIte, Bool.false_eq_true, decide_true, decide_false, beq_self_eq_true, Bool.not_true, Bool.not_false, true_and, and_true, and_self, List.append_assoc, List.nil_append, List.cons_append, Int.toNat_natCast, ck, Int.cast_ofNat_Int, Int.reduceToNat, bne_self_eq_false, Bool.or_false, Bool.false_or, Bool.false_and, Bool.and_false, Bool.or_true, Bool.true_or]
theorem rnext_none (d : Nat) (set n : Int) {m : Nat} (hm : m < 16) (e : bits .and .i64 n 15 = (m : Int)) (hn : ∀ i, i < 16 → has set (atN m i) = false) :
    evF Tryd.prog env xz (d+3) 11 [.d (.s (.int .i64 (set))), .d (.s (.int .i64 (n)))] = some (.d (.s (.int .i64 (-1)))) := by
  rw [evF_eq Tryd.func11 (show Tryd.f11.body = some _ from rfl) rfl rfl (by show 2 ≤ 20; decide)]
  simp (decide := true) only [Tryd.f11, rid, kl11_2, ↓sBp, sBq, List.all_cons, List.all_nil, List.map_cons, List.map_nil, D.shape, Sh.sub, Sh.size, List.getElem?_cons_zero, List.getElem?_cons_succ, Option.bind_some, Option.bind_none, Option.getD_some, Option.getD_none, V.keysIn, V.kill, V.has, decide_eq_true_eq, beq_iff_eq, bne_iff_ne, ne_eq, Bool.not_eq_true', Bool.and_true, Bool.and_self, Bool.true_and, if_true, if_false, reduceIte, Bool.false_eq_true, decide_true, decide_false, beq_self_eq_true, Bool.not_true, Bool.not_false, true_and, and_true, and_self, List.append_assoc, List.nil_append, List.cons_append, Int.toNat_natCast, ck, Int.cast_ofNat_Int, Int.reduceToNat, bne_self_eq_false, Bool.or_false, Bool.false_or, Bool.false_and, Bool.and_false, Bool.or_true, Bool.true_or]
  rw [iter_run (S := fun k => ⟨tab .junk [(0, .d (.s (.int .i64 (set)))), (1, .d (.s (.int .i64 (n)))), (5, .d (.s (.int .i64 ((k : Int) + 1))))], tab none []⟩) (n := 16) (h0 := ?h0) (hn := lt_loopFuel (by decide)) (step := ?step)]
  case h0 => rfl
  case step =>
    intro k hk
    have hk1 : (k : Int) + 1 ≤ 16 := by omega
    have hkw : IntKind.i64.wrap ((k : Int) + 1 + 1) = ((k + 1 : Nat) : Int) + 1 := by rw [IntWalk.i64_in _ (by omega)]; omega
    have hw : bits .and .i64 (IntKind.i64.wrap ((m : Int) + ((k : Int) + 1))) 15 = atN m k := by
      rw [IntWalk.i64_in _ (by omega), show (m : Int) + ((k : Int) + 1) = ((m + (k + 1) : Nat) : Int) by omega]; exact and15_small _ (by omega)
    have hf := hn k hk
    simp (decide := true) only [hk1, hkw, e, hw, rhas_z, hf, Tryd.f11, rid, kl11_2, ↓sBp, sBq, List.all_cons, List.all_nil, List.map_cons, List.map_nil, D.shape, Sh.sub, Sh.size, List.getElem?_cons_zero, List.getElem?_cons_succ, Option.bind_some, Option.bind_none, Option.getD_some, Option.getD_none, V.keysIn, V.kill, V.has, decide_eq_true_eq, beq_iff_eq, bne_iff_ne, ne_eq, Bool.not_eq_true', Bool.and_true, Bool.and_self, Bool.true_and, if_true, if_false, reduceIte, Bool.false_eq_true, decide_true, decide_false, beq_self_eq_true, Bool.not_true, Bool.not_false, true_and, and_true, and_self, List.append_assoc, List.nil_append, List.cons_append, Int.toNat_natCast, ck, Int.cast_ofNat_Int, Int.reduceToNat, bne_self_eq_false, Bool.or_false, Bool.false_or, Bool.false_and, Bool.and_false, Bool.or_true, Bool.true_or]
  have hk1 : ¬ ((16 : Nat) : Int) + 1 ≤ 16 := by omega
  simp (decide := true) only [hk1, Tryd.f11, rid, kl11_2, ↓sBp, sBq, List.all_cons, List.all_nil, List.map_cons, List.map_nil, D.shape, Sh.sub, Sh.size, List.getElem?_cons_zero, List.getElem?_cons_succ, Option.bind_some, Option.bind_none, Option.getD_some, Option.getD_none, V.keysIn, V.kill, V.has, decide_eq_true_eq, beq_iff_eq, bne_iff_ne, ne_eq, Bool.not_eq_true', Bool.and_true, Bool.and_self, Bool.true_and, if_true, if_false, reduceIte, Bool.false_eq_true, decide_true, decide_false, beq_self_eq_true, Bool.not_true, Bool.not_false, true_and, and_true, and_self, List.append_assoc, List.nil_append, List.cons_append, Int.toNat_natCast, ck, Int.cast_ofNat_Int, Int.reduceToNat, bne_self_eq_false, Bool.or_false, Bool.false_or, Bool.false_and, Bool.and_false, Bool.or_true, Bool.true_or]
/- The subsets. -/
def subs (s k : Nat) : List Int := (List.range k).map fun i => ((sub s i : Nat) : Int)
theorem subs_succ (s k : Nat) : subs s (k + 1) = subs s k ++ [((sub s k : Nat) : Int)] := by unfold subs; rw [List.range_succ, List.map_append]; rfl
theorem subs_len (s k : Nat) : (subs s k).length = k := by simp [subs]
theorem subs_zero (s : Nat) : subs s 0 = [] := rfl
theorem ints_len (s k : Nat) : (ints (subs s k)).length = k := by rw [ints_length, subs_len]
theorem subsets_ev (d : Nat) (set : Int) (m : Nat) (hm : m < 300) : evF Tryd.prog env xz (d+1) 4 [.d (.s (.int .i64 (set))), .d (.s (.int .i64 ((m : Int))))] = some (.sl .ro cI (ints (subs (lowN set) (min m (2 ^ cnt (lowN set)))))) := by
  rw [evF_eq Tryd.func4 (show Tryd.f4.body = some _ from rfl) rfl rfl (by show 2 ≤ 27; decide)]
  have e := lowN_eq set
  have hlt := lowN_lt set
  generalize lowN set = s at *
  have hp : 0 < 2 ^ cnt s := Nat.pow_pos (by decide)
  have z : ((65536 : Int) < (m : Int)) = False := by simp only [eq_iff_iff, iff_false]; omega
  have z2 : (if (65536 : Int) < (m : Int) then (65536 : Int) else (m : Int)) = m := if_neg (by omega)
  simp (decide := true) only [e, z2, Tryd.f4, rid, kl4_5, ↓sBp, sBq, List.all_cons, List.all_nil, List.map_cons, List.map_nil, D.shape, Sh.sub, Sh.size, List.getElem?_cons_zero, List.getElem?_cons_succ, Option.bind_some, Option.bind_none, Option.getD_some, Option.getD_none, V.keysIn, V.kill, V.has, decide_eq_true_eq, beq_iff_eq, bne_iff_ne, ne_eq, Bool.not_eq_true', Bool.and_true, Bool.and_self, Bool.true_and, if_true, if_false, reduceIte, Bool.false_eq_true, decide_true, decide_false, beq_self_eq_true, Bool.not_true, Bool.not_false, true_and, and_true, and_self, List.append_assoc, List.nil_append, List.cons_append, Int.toNat_natCast, ck, Int.cast_ofNat_Int, Int.reduceToNat, bne_self_eq_false, Bool.or_false, Bool.false_or, Bool.false_and, Bool.and_false, Bool.or_true, Bool.true_or]
  have st : ∀ k, k < 2 ^ cnt s → bits .and .i64 (IntKind.i64.wrap ((sub s k : Int) - (s : Int))) (s : Int) = ((sub s ((k + 1) % 2 ^ cnt s) : Nat) : Int) := fun k hk => sub_next hlt hk
  rcases Nat.lt_or_ge m (2 ^ cnt s) with hc | hc
  · rw [Nat.min_eq_left (by omega)]
    rw [iter_run (S := fun k => ⟨tab .junk [(0, .d (.s (.int .i64 ((s : Int))))), (1, .d (.s (.int .i64 ((m : Int))))), (5, .sl (.tg 5) cI (ints (subs s k))), (6, .d (.s (.int .i64 (((sub s k : Nat) : Int)))))], tab none [(5, some .row), (18, none)]⟩) (n := m) (h0 := ?h0) (hn := ?hn) (step := ?step)]
    case hn => exact lt_loopFuel (by omega)
    case h0 => rw [sub_zero, subs_zero]; rfl
    case step =>
      intro k hk
      have hk1 : (k : Int) < (m : Int) := by omega
      have hs := st k (by omega)
      rw [Nat.mod_eq_of_lt (by omega)] at hs
      have hne : (((sub s (k + 1) : Nat) : Int) == 0) = false := by
        have := sub_pos (s := s) (k := k + 1) (by omega) (by omega)
        rw [beq_eq_false_iff_ne]; omega
      have hl := ints_len s k
      have ha : ((k + 1) * 8 ≤ 140737488355328 ∧ k + 1 ≤ maxLen) = True := by have h := app_ok (sh := cI) (ints (subs s k)) 8 (by omega) (by rw [hl]; omega); rw [hl] at h; exact h
      have hi : ints (subs s k) ++ [dI ((sub s k : Nat) : Int)] = ints (subs s (k + 1)) := by rw [ints_snoc, subs_succ]
      simp (decide := true) only [hl, hk1, hs, hne, rep1, List.length_singleton, ha, hi, Tryd.f4, rid, kl4_5, ↓sBp, sBq, List.all_cons, List.all_nil, List.map_cons, List.map_nil, D.shape, Sh.sub, Sh.size, List.getElem?_cons_zero, List.getElem?_cons_succ, Option.bind_some, Option.bind_none, Option.getD_some, Option.getD_none, V.keysIn, V.kill, V.has, decide_eq_true_eq, beq_iff_eq, bne_iff_ne, ne_eq, Bool.not_eq_true', Bool.and_true, Bool.and_self, Bool.true_and, if_true, if_false, reduceIte, Bool.false_eq_true, decide_true, decide_false, beq_self_eq_true, Bool.not_true, Bool.not_false, true_and, and_true, and_self, List.append_assoc, List.nil_append, List.cons_append, Int.toNat_natCast, ck, Int.cast_ofNat_Int, Int.reduceToNat, bne_self_eq_false, Bool.or_false, Bool.false_or, Bool.false_and, Bool.and_false, Bool.or_true, Bool.true_or]
    have hl := ints_len s m
    have hk1 : ¬ (m : Int) < (m : Int) := by omega
    simp (decide := true) only [hl, hk1, Tryd.f4, rid, kl4_5, ↓sBp, sBq, List.all_cons, List.all_nil, List.map_cons, List.map_nil, D.shape, Sh.sub, Sh.size, List.getElem?_cons_zero, List.getElem?_cons_succ, Option.bind_some, Option.bind_none, Option.getD_some, Option.getD_none, V.keysIn, V.kill, V.has, decide_eq_true_eq, beq_iff_eq, bne_iff_ne, ne_eq, Bool.not_eq_true', Bool.and_true, Bool.and_self, Bool.true_and, if_true, if_false, reduceIte, Bool.false_eq_true, decide_true, decide_false, beq_self_eq_true, Bool.not_true, Bool.not_false, true_and, and_true, and_self, List.append_assoc, List.nil_append, List.cons_append, Int.toNat_natCast, ck, Int.cast_ofNat_Int, Int.reduceToNat, bne_self_eq_false, Bool.or_false, Bool.false_or, Bool.false_and, Bool.and_false, Bool.or_true, Bool.true_or]
  · rw [Nat.min_eq_right (by omega)]
    rw [iter_run (S := fun k => ⟨tab .junk [(0, .d (.s (.int .i64 ((s : Int))))), (1, .d (.s (.int .i64 ((m : Int))))), (5, .sl (.tg 5) cI (ints (subs s k))), (6, .d (.s (.int .i64 (((sub s k : Nat) : Int)))))], tab none [(5, some .row), (18, none)]⟩) (n := 2 ^ cnt s - 1) (h0 := ?h0) (hn := ?hn) (step := ?step)]
    case hn => exact lt_loopFuel (by omega)
    case h0 => rw [sub_zero, subs_zero]; rfl
    case step =>
      intro k hk
      have hk1 : (k : Int) < (m : Int) := by omega
      have hs := st k (by omega)
      rw [Nat.mod_eq_of_lt (by omega)] at hs
      have hne : (((sub s (k + 1) : Nat) : Int) == 0) = false := by
        have := sub_pos (s := s) (k := k + 1) (by omega) (by omega)
        rw [beq_eq_false_iff_ne]; omega
      have hl := ints_len s k
      have ha : ((k + 1) * 8 ≤ 140737488355328 ∧ k + 1 ≤ maxLen) = True := by have h := app_ok (sh := cI) (ints (subs s k)) 8 (by omega) (by rw [hl]; omega); rw [hl] at h; exact h
      have hi : ints (subs s k) ++ [dI ((sub s k : Nat) : Int)] = ints (subs s (k + 1)) := by rw [ints_snoc, subs_succ]
      simp (decide := true) only [hl, hk1, hs, hne, rep1, List.length_singleton, ha, hi, Tryd.f4, rid, kl4_5, ↓sBp, sBq, List.all_cons, List.all_nil, List.map_cons, List.map_nil, D.shape, Sh.sub, Sh.size, List.getElem?_cons_zero, List.getElem?_cons_succ, Option.bind_some, Option.bind_none, Option.getD_some, Option.getD_none, V.keysIn, V.kill, V.has, decide_eq_true_eq, beq_iff_eq, bne_iff_ne, ne_eq, Bool.not_eq_true', Bool.and_true, Bool.and_self, Bool.true_and, if_true, if_false, reduceIte, Bool.false_eq_true, decide_true, decide_false, beq_self_eq_true, Bool.not_true, Bool.not_false, true_and, and_true, and_self, List.append_assoc, List.nil_append, List.cons_append, Int.toNat_natCast, ck, Int.cast_ofNat_Int, Int.reduceToNat, bne_self_eq_false, Bool.or_false, Bool.false_or, Bool.false_and, Bool.and_false, Bool.or_true, Bool.true_or]
    obtain ⟨N, hN⟩ : ∃ N, 2 ^ cnt s = N + 1 := ⟨2 ^ cnt s - 1, by omega⟩
    have hs := st N (by omega)
    rw [hN, Nat.mod_self, sub_zero] at hs
    rw [hN, Nat.add_sub_cancel]
    have hk1 : (N : Int) < (m : Int) := by omega
    have hl := ints_len s N
    have ha : ((N + 1) * 8 ≤ 140737488355328 ∧ N + 1 ≤ maxLen) = True := by have h := app_ok (sh := cI) (ints (subs s N)) 8 (by omega) (by rw [hl]; omega); rw [hl] at h; exact h
    have hi : ints (subs s N) ++ [dI ((sub s N : Nat) : Int)] = ints (subs s (N + 1)) := by rw [ints_snoc, subs_succ]
    have h0 : (((0 : Nat) : Int) == 0) = true := rfl
    simp (decide := true) only [hl, hk1, hs, h0, rep1, List.length_singleton, ha, hi, Tryd.f4, rid, kl4_5, ↓sBp, sBq, List.all_cons, List.all_nil, List.map_cons, List.map_nil, D.shape, Sh.sub, Sh.size, List.getElem?_cons_zero, List.getElem?_cons_succ, Option.bind_some, Option.bind_none, Option.getD_some, Option.getD_none, V.keysIn, V.kill, V.has, decide_eq_true_eq, beq_iff_eq, bne_iff_ne, ne_eq, Bool.not_eq_true', Bool.and_true, Bool.and_self, Bool.true_and, if_true, if_false, reduceIte, Bool.false_eq_true, decide_true, decide_false, beq_self_eq_true, Bool.not_true, Bool.not_false, true_and, and_true, and_self, List.append_assoc, List.nil_append, List.cons_append, Int.toNat_natCast, ck, Int.cast_ofNat_Int, Int.reduceToNat, bne_self_eq_false, Bool.or_false, Bool.false_or, Bool.false_and, Bool.and_false, Bool.or_true, Bool.true_or]
theorem rsubsets_ev (d : Nat) (set : Int) (m : Nat) (hm : m < 300) : evF Tryd.prog env xz (d+1) 5 [.d (.s (.int .i64 (set))), .d (.s (.int .i64 ((m : Int))))] = some (.sl .ro cI (ints (subs (lowN set) (min m (2 ^ cnt (lowN set)))))) := by
  rw [evF_eq Tryd.func5 (show Tryd.f5.body = some _ from rfl) rfl rfl (by show 2 ≤ 28; decide)]
  have e := lowN_eq set
  have hlt := lowN_lt set
  generalize lowN set = s at *
  have hp : 0 < 2 ^ cnt s := Nat.pow_pos (by decide)
  have z1 : (if (0 : Int) > (m : Int) then (0 : Int) else (m : Int)) = m := if_neg (by omega)
  have z2 : (if (65536 : Int) < (m : Int) then (65536 : Int) else (m : Int)) = m := if_neg (by omega)
  simp (decide := true) only [e, Tryd.f5, rid, kl5_4, ↓sBp, sBq, List.all_cons, List.all_nil, List.map_cons, List.map_nil, D.shape, Sh.sub, Sh.size, List.getElem?_cons_zero, List.getElem?_cons_succ, Option.bind_some, Option.bind_none, Option.getD_some, Option.getD_none, V.keysIn, V.kill, V.has, decide_eq_true_eq, beq_iff_eq, bne_iff_ne, ne_eq, Bool.not_eq_true', Bool.and_true, Bool.and_self, Bool.true_and, if_true, if_false, reduceIte, Bool.false_eq_true, decide_true, decide_false, beq_self_eq_true, Bool.not_true, Bool.not_false, true_and, and_true, and_self, List.append_assoc, List.nil_append, List.cons_append, Int.toNat_natCast, ck, Int.cast_ofNat_Int, Int.reduceToNat, bne_self_eq_false, Bool.or_false, Bool.false_or, Bool.false_and, Bool.and_false, Bool.or_true, Bool.true_or]
  have st : ∀ k, k + 1 < 2 ^ cnt s → bits .and .i64 (IntKind.i64.wrap ((sub s k : Int) - (s : Int))) (s : Int) = ((sub s (k + 1) : Nat) : Int) := fun k hk => by
    have h := sub_next (s := s) (k := k) hlt (by omega)
    rw [Nat.mod_eq_of_lt hk] at h; exact h
  have ne : ∀ k, k + 1 < 2 ^ cnt s → (((sub s k : Nat) : Int) == (s : Int)) = false := fun k hk => by
    rw [beq_eq_false_iff_ne]
    intro h
    have := (sub_last (s := s) (k := k) hlt (by omega)).1 (by omega)
    omega
  rcases Nat.lt_or_ge m (2 ^ cnt s) with hc | hc
  · rw [Nat.min_eq_left (by omega)]
    rw [iter_run (S := fun k => ⟨tab .junk [(0, .d (.s (.int .i64 ((s : Int))))), (1, .d (.s (.int .i64 ((m : Int))))), (5, .sl (.tg 5) cI (ints (subs s k))), (6, .d (.s (.int .i64 (((sub s k : Nat) : Int)))))], tab none [(5, some .row), (18, none)]⟩) (n := m) (h0 := ?h0) (hn := ?hn) (step := ?step)]
    case hn => exact lt_loopFuel (by omega)
    case h0 => rw [sub_zero, subs_zero]; rfl
    case step =>
      intro k hk
      have hk1 : (k : Int) < (m : Int) := by omega
      have hs := st k (by omega)
      have hne := ne k (by omega)
      have hl := ints_len s k
      have ha : ((k + 1) * 8 ≤ 140737488355328 ∧ k + 1 ≤ maxLen) = True := by have h := app_ok (sh := cI) (ints (subs s k)) 8 (by omega) (by rw [hl]; omega); rw [hl] at h; exact h
      have hi : ints (subs s k) ++ [dI ((sub s k : Nat) : Int)] = ints (subs s (k + 1)) := by rw [ints_snoc, subs_succ]
      simp (decide := true) only [z1, z2, hl, hk1, hs, hne, rep1, List.length_singleton, ha, hi, Tryd.f5, rid, kl5_4, ↓sBp, sBq, List.all_cons, List.all_nil, List.map_cons, List.map_nil, D.shape, Sh.sub, Sh.size, List.getElem?_cons_zero, List.getElem?_cons_succ, Option.bind_some, Option.bind_none, Option.getD_some, Option.getD_none, V.keysIn, V.kill, V.has, decide_eq_true_eq, beq_iff_eq, bne_iff_ne, ne_eq, Bool.not_eq_true', Bool.and_true, Bool.and_self, Bool.true_and, if_true, if_false, reduceIte, Bool.false_eq_true, decide_true, decide_false, beq_self_eq_true, Bool.not_true, Bool.not_false, true_and, and_true, and_self, List.append_assoc, List.nil_append, List.cons_append, Int.toNat_natCast, ck, Int.cast_ofNat_Int, Int.reduceToNat, bne_self_eq_false, Bool.or_false, Bool.false_or, Bool.false_and, Bool.and_false, Bool.or_true, Bool.true_or]
    have hl := ints_len s m
    have hk1 : ¬ (m : Int) < (m : Int) := by omega
    simp (decide := true) only [z1, z2, hl, hk1, Tryd.f5, rid, kl5_4, ↓sBp, sBq, List.all_cons, List.all_nil, List.map_cons, List.map_nil, D.shape, Sh.sub, Sh.size, List.getElem?_cons_zero, List.getElem?_cons_succ, Option.bind_some, Option.bind_none, Option.getD_some, Option.getD_none, V.keysIn, V.kill, V.has, decide_eq_true_eq, beq_iff_eq, bne_iff_ne, ne_eq, Bool.not_eq_true', Bool.and_true, Bool.and_self, Bool.true_and, if_true, if_false, reduceIte, Bool.false_eq_true, decide_true, decide_false, beq_self_eq_true, Bool.not_true, Bool.not_false, true_and, and_true, and_self, List.append_assoc, List.nil_append, List.cons_append, Int.toNat_natCast, ck, Int.cast_ofNat_Int, Int.reduceToNat, bne_self_eq_false, Bool.or_false, Bool.false_or, Bool.false_and, Bool.and_false, Bool.or_true, Bool.true_or]
  · rw [Nat.min_eq_right (by omega)]
    rw [iter_run (S := fun k => ⟨tab .junk [(0, .d (.s (.int .i64 ((s : Int))))), (1, .d (.s (.int .i64 ((m : Int))))), (5, .sl (.tg 5) cI (ints (subs s k))), (6, .d (.s (.int .i64 (((sub s k : Nat) : Int)))))], tab none [(5, some .row), (18, none)]⟩) (n := 2 ^ cnt s - 1) (h0 := ?h0) (hn := ?hn) (step := ?step)]
    case hn => exact lt_loopFuel (by omega)
    case h0 => rw [sub_zero, subs_zero]; rfl
    case step =>
      intro k hk
      have hk1 : (k : Int) < (m : Int) := by omega
      have hs := st k (by omega)
      have hne := ne k (by omega)
      have hl := ints_len s k
      have ha : ((k + 1) * 8 ≤ 140737488355328 ∧ k + 1 ≤ maxLen) = True := by have h := app_ok (sh := cI) (ints (subs s k)) 8 (by omega) (by rw [hl]; omega); rw [hl] at h; exact h
      have hi : ints (subs s k) ++ [dI ((sub s k : Nat) : Int)] = ints (subs s (k + 1)) := by rw [ints_snoc, subs_succ]
      simp (decide := true) only [z1, z2, hl, hk1, hs, hne, rep1, List.length_singleton, ha, hi, Tryd.f5, rid, kl5_4, ↓sBp, sBq, List.all_cons, List.all_nil, List.map_cons, List.map_nil, D.shape, Sh.sub, Sh.size, List.getElem?_cons_zero, List.getElem?_cons_succ, Option.bind_some, Option.bind_none, Option.getD_some, Option.getD_none, V.keysIn, V.kill, V.has, decide_eq_true_eq, beq_iff_eq, bne_iff_ne, ne_eq, Bool.not_eq_true', Bool.and_true, Bool.and_self, Bool.true_and, if_true, if_false, reduceIte, Bool.false_eq_true, decide_true, decide_false, beq_self_eq_true, Bool.not_true, Bool.not_false, true_and, and_true, and_self, List.append_assoc, List.nil_append, List.cons_append, Int.toNat_natCast, ck, Int.cast_ofNat_Int, Int.reduceToNat, bne_self_eq_false, Bool.or_false, Bool.false_or, Bool.false_and, Bool.and_false, Bool.or_true, Bool.true_or]
    have he := sub_end hlt
    obtain ⟨N, hN⟩ : ∃ N, 2 ^ cnt s = N + 1 := ⟨2 ^ cnt s - 1, by omega⟩
    rw [hN, Nat.add_sub_cancel] at he ⊢
    have hk1 : (N : Int) < (m : Int) := by omega
    have hl := ints_len s N
    have ha : ((N + 1) * 8 ≤ 140737488355328 ∧ N + 1 ≤ maxLen) = True := by have h := app_ok (sh := cI) (ints (subs s N)) 8 (by omega) (by rw [hl]; omega); rw [hl] at h; exact h
    have hi : ints (subs s N) ++ [dI ((sub s N : Nat) : Int)] = ints (subs s (N + 1)) := by rw [ints_snoc, subs_succ]
    have heq : (((sub s N : Nat) : Int) == (s : Int)) = true := by rw [he]; exact beq_self_eq_true _
    simp (decide := true) only [z1, z2, hl, hk1, heq, rep1, List.length_singleton, ha, hi, Tryd.f5, rid, kl5_4, ↓sBp, sBq, List.all_cons, List.all_nil, List.map_cons, List.map_nil, D.shape, Sh.sub, Sh.size, List.getElem?_cons_zero, List.getElem?_cons_succ, Option.bind_some, Option.bind_none, Option.getD_some, Option.getD_none, V.keysIn, V.kill, V.has, decide_eq_true_eq, beq_iff_eq, bne_iff_ne, ne_eq, Bool.not_eq_true', Bool.and_true, Bool.and_self, Bool.true_and, if_true, if_false, reduceIte, Bool.false_eq_true, decide_true, decide_false, beq_self_eq_true, Bool.not_true, Bool.not_false, true_and, and_true, and_self, List.append_assoc, List.nil_append, List.cons_append, Int.toNat_natCast, ck, Int.cast_ofNat_Int, Int.reduceToNat, bne_self_eq_false, Bool.or_false, Bool.false_or, Bool.false_and, Bool.and_false, Bool.or_true, Bool.true_or]
theorem awakeN_ev : evF Tryd.prog env xz 29 14 [] = some (.d (.s (.bool (true)))) := by kernel_rfl
end Go.Proofs.YthpccjgpbcginaaDoor.Ev
