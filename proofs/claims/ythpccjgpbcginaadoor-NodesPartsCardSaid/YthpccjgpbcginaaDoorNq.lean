/- NodesParts: the least, greatest, next node, and subsets, of any set; subsets rise, are within it, and are as many as they must: the statement, and its card. -/
import Derived.Test.YthpccjgpbcginaaDoorNp
import Derived.Test.YthpccjgpbcginaaDoorEvF
import Derived.Test.YthpccjgpbcginaaDoorRows
import Derived.Test.YthpccjgpbcginaaDoorCards
import Derived.Test.YthpccjgpbcginaaDoorTie
import Derived.ProofKit
import Derived.OpenShut
import Derived.Deep.DeepHandedRow
import Derived.Lib.LaidTab
namespace Go.Proofs.YthpccjgpbcginaaDoor.Ev
open Go
attribute [local congr] ob_congr sq_congr cd_congr ite_congr1 iter_congr it1_congr jumps_congr
set_option maxRecDepth 100000
set_option linter.unusedSimpArgs false
set_option linter.unusedVariables false
theorem filter_none {p : Nat → Bool} : ∀ (l : List Nat), (∀ i, i ∈ l → p i = false) → l.filter p = []
  | [], _ => rfl
  | a :: l, h => by rw [List.filter_cons, h a (by simp), if_neg (by decide), filter_none l fun i hi => h i (by simp [hi])]
theorem filter_head {p : Nat → Bool} {n k : Nat} (hk : k < n) (hp : p k = true) (h : ∀ i, i < k → p i = false) : ((List.range n).filter p)[0]? = some k := by
  rw [range_split hk, List.filter_append, List.filter_cons, hp, filter_none _ fun i hi => h i (by simpa using hi)]; rfl
theorem filter_last {p : Nat → Bool} {n k : Nat} (hk : k < n) (hp : p k = true) (h : ∀ i, k < i → p i = false) : ∃ c, ((List.range n).filter p).length = c + 1 ∧ ((List.range n).filter p)[c]? = some k := by
  rw [range_split hk, List.filter_append, List.filter_cons, hp, if_pos rfl, filter_none ((List.range (n - k - 1)).map (k + 1 + ·)) fun i hi => h i (by simp at hi; omega)]
  refine ⟨((List.range k).filter p).length, by simp, by simp⟩
theorem filter_congr' {p q : Nat → Bool} : ∀ (l : List Nat), (∀ i, i ∈ l → p i = q i) → l.filter p = l.filter q
  | [], _ => rfl
  | a :: l, h => by rw [List.filter_cons, List.filter_cons, h a (by simp), filter_congr' l fun i hi => h i (by simp [hi])]
theorem list_low {set : Int} (hs : inI set) : listTo set 16 = ((List.range 16).filter fun i => (lowN set).testBit i).map fun (i : Nat) => (i : Int) := by
  unfold listTo
  rw [filter_congr' (q := fun i => (lowN set).testBit i) (List.range 16) fun i hi => has_low' hs (by simpa using hi)]
theorem list_cnt {set : Int} (hs : inI set) : (listTo set 16).length = cnt (lowN set) := by
  rw [list_low hs, List.length_map, pc_list, cnt_eq (lowN_lt set)]
theorem rlowest_eq (d : Nat) {set : Int} (hs : inI set) : evF Tryd.prog env xz (d+3) 7 [.d (.s (.int .i64 (set)))] = some (.d (.s (.int .i64 (lowV (lowN set))))) := by
  unfold lowV
  by_cases h : lowN set = 0
  · rw [if_pos h]
    exact rlowest_none d set fun i hi => by rw [has_low' hs hi, h, Nat.zero_testBit]
  · rw [if_neg h]
    obtain ⟨h1, h2, h3⟩ := low_at (Nat.pos_of_ne_zero h) (lowN_lt set)
    exact rlowest_some d set h3 (by rw [has_low' hs h3]; exact h1) fun i hi => by rw [has_low' hs (by omega)]; exact h2 i hi
theorem rhighest_eq (d : Nat) {set : Int} (hs : inI set) : evF Tryd.prog env xz (d+3) 9 [.d (.s (.int .i64 (set)))] = some (.d (.s (.int .i64 (highV (lowN set))))) := by
  unfold highV
  by_cases h : lowN set = 0
  · rw [h]
    exact rhighest_none d set fun i hi => by rw [has_low' hs hi, h, Nat.zero_testBit]
  · obtain ⟨t, h1, h2, h3, h4⟩ := high_at (Nat.pos_of_ne_zero h) (lowN_lt set)
    rw [h1, IntWalk.i64_in _ (by omega), show ((t + 1 : Nat) : Int) - 1 = (t : Int) by omega]
    exact rhighest_some d set h2 (by rw [has_low' hs h2]; exact h3) fun i hi hi2 => by rw [has_low' hs hi2]; exact h4 i hi
theorem next_eq {set : Int} (hs : inI set) (n : Int) : ∃ v : Int, (∀ d, evF Tryd.prog env xz (d+3) 10 [.d (.s (.int .i64 (set))), .d (.s (.int .i64 (n)))] = some (.d (.s (.int .i64 (v))))) ∧ (∀ d, evF Tryd.prog env xz (d+3) 11 [.d (.s (.int .i64 (set))), .d (.s (.int .i64 (n)))] = some (.d (.s (.int .i64 (v))))) ∧ (lowN set ≠ 0 → has set v = true) := by
  obtain ⟨m, hm, e⟩ := and15 n
  by_cases h : ∃ k, k < 16 ∧ has set (atN m k) = true
  · obtain ⟨k, hk, h1, h2⟩ := first_of h
    have h3 : ∀ i, i < k → has set (atN m i) = false := fun i hi => by simpa using h2 i hi
    exact ⟨atN m k, fun d => next_some d set n hm e hk h1 h3, fun d => rnext_some d set n hm e hk h1 h3, fun _ => h1⟩
  · have h3 : ∀ i, i < 16 → has set (atN m i) = false := fun i hi => by
      cases hb : has set (atN m i) with
      | false => rfl
      | true => exact absurd ⟨i, hi, hb⟩ h
    refine ⟨-1, fun d => next_none d set n hm e h3, fun d => rnext_none d set n hm e h3, fun h0 => ?_⟩
    refine absurd (zero_bits (fun i hi => ?_) (lowN_lt set)) h0
    have := h3 ((i + 31 - m) % 16) (by omega)
    rw [← has_low' hs hi]
    have e2 : atN m ((i + 31 - m) % 16) = (i : Int) := by unfold atN; omega
    rw [e2] at this; exact this

theorem subs_get (s M k : Nat) (h : k < M) : (ints (subs s M))[k]? = some (dI ((sub s k : Nat) : Int)) := by
  refine ints_get ?_
  simp [subs, h]
set_option maxHeartbeats 4000000 in
theorem nodesParts_ev (set n j : Int) (hs : inI set) (m : Nat) (hm : m < 300) (hj : IntKind.i64.wrap ((IntKind.u64.wrap j).tmod 300) = (m : Int)) :
    evF Tryd.prog env xz (30) 3 [.d (.s (.int .i64 (set))), .d (.s (.int .i64 (n))), .d (.s (.int .i64 (j)))] = some (.d (.s (.bool (true)))) := by
  rw [evF_eq Tryd.func3 (show Tryd.f3.body = some _ from rfl) rfl rfl (by show 3 ≤ 134; decide)]
  have s1 := fun d => subsets_ev d set m hm
  have s2 := fun d => rsubsets_ev d set m hm
  have l1 := fun d => lowest_ev d set
  have l2 := fun d => rlowest_eq d hs
  have g1 := fun d => highest_ev d set
  have g2 := fun d => rhighest_eq d hs
  obtain ⟨v, n1, n2, n3⟩ := next_eq hs n
  have lst := fun d => list_z d set
  have lc := list_cnt hs
  have hlt := lowN_lt set
  have eS := lowN_eq set
  have c300 : (300 : Int) ≠ 0 := by decide
  obtain ⟨M, hM⟩ : ∃ M, min m (2 ^ cnt (lowN set)) = M := ⟨_, rfl⟩
  rw [hM] at s1 s2
  have hMm : M < 300 := by omega
  have lenM := ints_len (lowN set) M
  have awk := awakeN_ev
  have hc16 := cnt_le hlt
  have q1 : ((M : Int) != (M : Int)) = false := by simp
  have q2 : (lowV (lowN set) != lowV (lowN set)) = false := by simp
  have q3 : (highV (lowN set) != highV (lowN set)) = false := by simp
  have q4 : (v != v) = false := by simp
  simp (decide := true) only [c300, hj, s1, s2, lenM, l1, l2, g1, g2, n1, n2, q1, q2, q3, q4, Tryd.f3, rid, kl3_6, dp3_8, dp3_12, ↓sBp, sBq, List.all_cons, List.all_nil, List.map_cons, List.map_nil, D.shape, Sh.sub, Sh.size, List.getElem?_cons_zero, List.getElem?_cons_succ, Option.bind_some, Option.bind_none, Option.getD_some, Option.getD_none, V.keysIn, V.kill, V.has, decide_eq_true_eq, beq_iff_eq, bne_iff_ne, ne_eq, Bool.not_eq_true', Bool.and_true, Bool.and_self, Bool.true_and, if_true, if_false, reduceIte, Bool.false_eq_true, decide_true, decide_false, beq_self_eq_true, Bool.not_true, Bool.not_false, true_and, and_true, and_self, List.append_assoc, List.nil_append, List.cons_append, Int.toNat_natCast, ck, Int.cast_ofNat_Int, Int.reduceToNat, bne_self_eq_false, Bool.or_false, Bool.false_or, Bool.false_and, Bool.and_false, Bool.or_true, Bool.true_or]
  rw [iter_run (S := fun k => ⟨tab .junk [(0, .d (.s (.int .i64 (set)))), (1, .d (.s (.int .i64 (n)))), (2, .d (.s (.int .i64 ((m : Int))))), (7, .sl (.tg 17) cI (ints (subs (lowN set) M))), (8, .sl (.tg 20) cI (ints (subs (lowN set) M))), (50, .d (.s (.int .i64 ((M : Int))))), (51, .d (.s (.int .i64 ((k : Int)))))], tab none [(17, some .row), (20, some .row)]⟩) (n := M) (h0 := ?h0) (hn := ?hn) (step := ?step)]
  case hn => exact lt_loopFuel (by omega)
  case h0 => rfl
  case step =>
    intro k hk
    have hk1 : (k : Int) < (M : Int) := by omega
    have hkw := wrap_succ k (by omega)
    have hk0 : (0 : Int) ≤ (k : Int) := by omega
    have gk := subs_get (lowN set) M k hk
    have qk : (((sub (lowN set) k : Nat) : Int) != ((sub (lowN set) k : Nat) : Int)) = false := by simp
    have so := sub_out (lowN set) k hlt
    have q0 : ((0 : Int) != 0) = false := by decide
    rcases Nat.eq_zero_or_pos k with h0 | h0
    · have p0 : ¬ (0 : Int) < (k : Int) := by omega
      simp (decide := true) only [hk1, hkw, hk0, gk, qk, eS, so, q0, p0, Tryd.f3, rid, kl3_6, dp3_8, dp3_12, ↓sBp, sBq, List.all_cons, List.all_nil, List.map_cons, List.map_nil, D.shape, Sh.sub, Sh.size, List.getElem?_cons_zero, List.getElem?_cons_succ, Option.bind_some, Option.bind_none, Option.getD_some, Option.getD_none, V.keysIn, V.kill, V.has, decide_eq_true_eq, beq_iff_eq, bne_iff_ne, ne_eq, Bool.not_eq_true', Bool.and_true, Bool.and_self, Bool.true_and, if_true, if_false, reduceIte, Bool.false_eq_true, decide_true, decide_false, beq_self_eq_true, Bool.not_true, Bool.not_false, true_and, and_true, and_self, List.append_assoc, List.nil_append, List.cons_append, Int.toNat_natCast, ck, Int.cast_ofNat_Int, Int.reduceToNat, bne_self_eq_false, Bool.or_false, Bool.false_or, Bool.false_and, Bool.and_false, Bool.or_true, Bool.true_or]
    · have p0 : (0 : Int) < (k : Int) := by omega
      have kp : IntKind.i64.wrap ((k : Int) - 1) = ((k - 1 : Nat) : Int) := by rw [IntWalk.i64_in _ (by omega)]; omega
      have kp0 : (0 : Int) ≤ ((k - 1 : Nat) : Int) := by omega
      have gp := subs_get (lowN set) M (k - 1) (by omega)
      have lt : ¬ (((sub (lowN set) k : Nat) : Int) ≤ ((sub (lowN set) (k - 1) : Nat) : Int)) := by
        have := sub_mono (s := lowN set) (i := k - 1) (j := k) (by omega) (by omega)
        omega
      simp (decide := true) only [hk1, hkw, hk0, gk, qk, eS, so, q0, p0, kp, kp0, gp, lt, Tryd.f3, rid, kl3_6, dp3_8, dp3_12, ↓sBp, sBq, List.all_cons, List.all_nil, List.map_cons, List.map_nil, D.shape, Sh.sub, Sh.size, List.getElem?_cons_zero, List.getElem?_cons_succ, Option.bind_some, Option.bind_none, Option.getD_some, Option.getD_none, V.keysIn, V.kill, V.has, decide_eq_true_eq, beq_iff_eq, bne_iff_ne, ne_eq, Bool.not_eq_true', Bool.and_true, Bool.and_self, Bool.true_and, if_true, if_false, reduceIte, Bool.false_eq_true, decide_true, decide_false, beq_self_eq_true, Bool.not_true, Bool.not_false, true_and, and_true, and_self, List.append_assoc, List.nil_append, List.cons_append, Int.toNat_natCast, ck, Int.cast_ofNat_Int, Int.reduceToNat, bne_self_eq_false, Bool.or_false, Bool.false_or, Bool.false_and, Bool.and_false, Bool.or_true, Bool.true_or]
  have hMM : ¬ (M : Int) < (M : Int) := by omega
  have lenL : (ints (listTo set 16)).length = cnt (lowN set) := by rw [ints_length]; exact lc
  have wu : IntKind.u64.wrap ((cnt (lowN set) : Nat) : Int) = ((cnt (lowN set) : Nat) : Int) := IntWalk.u64_in _ (by omega)
  have nn : (0 : Int) ≤ ((cnt (lowN set) : Nat) : Int) := by omega
  have sh : IntKind.i64.wrap (1 * 2 ^ (min (cnt (lowN set)) IntKind.i64.bits)) = ((2 ^ cnt (lowN set) : Nat) : Int) := by
    have e : min (cnt (lowN set)) IntKind.i64.bits = cnt (lowN set) := Nat.min_eq_left (Nat.le_trans hc16 (by decide))
    have hle : 2 ^ cnt (lowN set) ≤ 2 ^ 16 := Nat.pow_le_pow_right (by decide) hc16
    have e3 : ((2 ^ cnt (lowN set) : Nat) : Int) = (2 : Int) ^ cnt (lowN set) := by rw [Int.natCast_pow]; rfl
    rw [e, Int.one_mul, ← e3]
    exact IntWalk.i64_in _ (by omega)
  have mn : (if ((2 ^ cnt (lowN set) : Nat) : Int) < (m : Int) then ((2 ^ cnt (lowN set) : Nat) : Int) else (m : Int)) = (M : Int) := by
    rw [← hM]
    generalize 2 ^ cnt (lowN set) = P
    split <;> omega
  have qM : ((M : Int) == (M : Int)) = true := by simp
  by_cases h0 : lowN set = 0
  · have c0 : cnt (lowN set) = 0 := by rw [h0]; exact pc_zero 64
    have z1 : ¬ (0 : Int) < ((cnt (lowN set) : Nat) : Int) := by omega
    simp (decide := true) only [hMM, lst, lenL, z1, lenM, wu, nn, sh, mn, qM, awk, Tryd.f3, rid, kl3_6, dp3_8, dp3_12, ↓sBp, sBq, List.all_cons, List.all_nil, List.map_cons, List.map_nil, D.shape, Sh.sub, Sh.size, List.getElem?_cons_zero, List.getElem?_cons_succ, Option.bind_some, Option.bind_none, Option.getD_some, Option.getD_none, V.keysIn, V.kill, V.has, decide_eq_true_eq, beq_iff_eq, bne_iff_ne, ne_eq, Bool.not_eq_true', Bool.and_true, Bool.and_self, Bool.true_and, if_true, if_false, reduceIte, Bool.false_eq_true, decide_true, decide_false, beq_self_eq_true, Bool.not_true, Bool.not_false, true_and, and_true, and_self, List.append_assoc, List.nil_append, List.cons_append, Int.toNat_natCast, ck, Int.cast_ofNat_Int, Int.reduceToNat, bne_self_eq_false, Bool.or_false, Bool.false_or, Bool.false_and, Bool.and_false, Bool.or_true, Bool.true_or]
  · have hp := Nat.pos_of_ne_zero h0
    obtain ⟨a1, a2, a3⟩ := low_at hp hlt
    obtain ⟨t, b1, b2, b3, b4⟩ := high_at hp hlt
    have e1 : lowV (lowN set) = ((Lib.ctz 64 (lowN set) : Nat) : Int) := if_neg h0
    have e2 : highV (lowN set) = (t : Int) := by unfold highV; rw [b1, IntWalk.i64_in _ (by omega)]; omega
    have L0 : (ints (listTo set 16))[0]? = some (dI ((Lib.ctz 64 (lowN set) : Nat) : Int)) := by
      refine ints_get ?_
      rw [list_low hs, List.getElem?_map, filter_head a3 a1 a2]; rfl
    obtain ⟨c, d1, d2⟩ := filter_last (p := fun i => (lowN set).testBit i) b2 b3 b4
    have cc : cnt (lowN set) = c + 1 := by rw [← lc, list_low hs, List.length_map, d1]
    have Lc : (ints (listTo set 16))[c]? = some (dI (t : Int)) := by
      refine ints_get ?_
      rw [list_low hs, List.getElem?_map, d2]; rfl
    have z1 : (0 : Int) < ((cnt (lowN set) : Nat) : Int) := by omega
    have kc : IntKind.i64.wrap (((cnt (lowN set) : Nat) : Int) - 1) = (c : Int) := by rw [IntWalk.i64_in _ (by omega)]; omega
    have kc0 : (0 : Int) ≤ (c : Int) := by omega
    have hv := n3 h0
    have x1 : (((Lib.ctz 64 (lowN set) : Nat) : Int) != ((Lib.ctz 64 (lowN set) : Nat) : Int)) = false := by simp
    have x2 : ((t : Int) != (t : Int)) = false := by simp
    rw [e1] at l1
    rw [e2] at g1
    simp (decide := true) only [hMM, lst, lenL, z1, l1, g1, L0, Lc, kc, kc0, n1, has_z, hv, x1, x2, lenM, wu, nn, sh, mn, qM, awk, Tryd.f3, rid, kl3_6, dp3_8, dp3_12, ↓sBp, sBq, List.all_cons, List.all_nil, List.map_cons, List.map_nil, D.shape, Sh.sub, Sh.size, List.getElem?_cons_zero, List.getElem?_cons_succ, Option.bind_some, Option.bind_none, Option.getD_some, Option.getD_none, V.keysIn, V.kill, V.has, decide_eq_true_eq, beq_iff_eq, bne_iff_ne, ne_eq, Bool.not_eq_true', Bool.and_true, Bool.and_self, Bool.true_and, if_true, if_false, reduceIte, Bool.false_eq_true, decide_true, decide_false, beq_self_eq_true, Bool.not_true, Bool.not_false, true_and, and_true, and_self, List.append_assoc, List.nil_append, List.cons_append, Int.toNat_natCast, ck, Int.cast_ofNat_Int, Int.reduceToNat, bne_self_eq_false, Bool.or_false, Bool.false_or, Bool.false_and, Bool.and_false, Bool.or_true, Bool.true_or]
theorem rem300 (j : Int) : ∃ m : Nat, m < 300 ∧ IntKind.i64.wrap ((IntKind.u64.wrap j).tmod 300) = (m : Int) := by
  have e : IntKind.u64.wrap j = j % 18446744073709551616 := rfl
  rw [e]
  have h0 : 0 ≤ j % 18446744073709551616 := by omega
  rw [Int.tmod_eq_emod_of_nonneg h0]
  refine ⟨((j % 18446744073709551616) % 300).toNat, by omega, ?_⟩
  rw [IntWalk.i64_in _ (by omega)]; omega
theorem nodesParts_data (x0 : D) (w0 : x0.WF) (s0 : x0.shape = cI) (f0 : x0.fits) (x1 : D) (w1 : x1.WF) (s1 : x1.shape = cI) (f1 : x1.fits) (x2 : D) (w2 : x2.WF) (s2 : x2.shape = cI) (f2 : x2.fits) :
    evF Tryd.prog env xz (30) 3 [.d x0, .d x1, .d x2] = some (.d (.s (.bool (true)))) := by
  have e0 := of_cell s0
  have e1 := of_cell s1
  have e2 := of_cell s2
  rw [e0] at f0
  rw [e0, e1, e2]
  obtain ⟨m, hm, hj⟩ := rem300 (intOf x2)
  exact nodesParts_ev _ _ _ (inI_of f0) m hm hj

open Go.ChangeShapes Go.WideShapes Go.ChangeAt Go.RowKit
set_option maxRecDepth 100000
theorem own : ownKnob Tryd.prog.godebug = none := by kernel_rfl
theorem laidOut : laidOutB Tryd.prog = true := by kernel_rfl
theorem gT32 : Tryd.prog.globalNamed "math/bits.deBruijn32tab" = some 0 := by kernel_rfl
theorem gT64 : Tryd.prog.globalNamed "math/bits.deBruijn64tab" = some 1 := by kernel_rfl
def zs32 : List Int := [0, 1, 28, 2, 29, 14, 24, 3, 30, 22, 20, 15, 25, 17, 4, 8, 31, 27, 13, 23, 21, 19, 16, 7, 26, 12, 18, 6, 11, 5, 10, 9]
def zs64 : List Int := Lib.deBruijn64tab.map fun (n : Nat) => (n : Int)
theorem laid_eq : Rows.nodesPartsRow.laid = [("math/bits.deBruijn32tab", Lib.tabData .u8 zs32), ("math/bits.deBruijn64tab", Lib.tabData .u8 zs64)] := by kernel_rfl
theorem laid_tail {P : Program} {x : String × DataW Unit} {r : List (String × DataW Unit)} {w : World} (h : laidMet P (x :: r) w) : laidMet P r w := by
  obtain ⟨ps, ⟨g, t, cs, fuel, p, q, _, _, _, _, hr, rfl⟩, hn, hc⟩ := h
  exact ⟨q, hr, (List.nodup_append.1 hn).2.1, fun b off hm => hc b off (List.mem_append_right _ hm)⟩
theorem JZ_of {W : World} (h : laidMetH Tryd.prog Rows.nodesPartsRow.laid W) : JZ W := by
  have h' : laidMet Tryd.prog [("math/bits.deBruijn32tab", Lib.tabData .u8 zs32), ("math/bits.deBruijn64tab", Lib.tabData .u8 zs64)] W := by
    have h2 := h
    rw [laid_eq] at h2
    exact h2
  have hT : Lib.TabIs Tryd.prog W "math/bits.deBruijn64tab" .u8 zs64 := Lib.tabIs_of_head (rest := []) gT64 (by kernel_rfl) Tryd.underlying43 Tryd.underlying5 (by kernel_rfl) (by kernel_rfl) (laid_tail h')
  have hc : ∀ j, j < 64 → W.cell? ⟨1, j, none⟩ = some (.int .u8 (zs64.getD j 0)) := fun j hj => hT.cell gT64 j (by rw [show zs64.length = 64 from rfl]; exact hj)
  have h0 := hc 0 (by decide)
  have hk := Lib.TabIs.cell hT gT64 0 (by decide)
  cases hh : W.heap[1]? with
  | none => simp [World.cell?, hh] at h0
  | some o =>
    cases o with
    | cells cs T fr =>
      refine ⟨cs, T, fr, hh, fun j hj => ?_⟩
      have := hc j hj
      rw [cell_of_row W 1 j cs T fr hh] at this
      rw [this]
      have hall : ∀ j, j < 64 → zs64.getD j 0 = ((Lib.deBruijn64tab.getD j 0 : Nat) : Int) := by decide
      rw [hall j hj]
    | _ => simp [World.cell?, hh] at h0
theorem contract (H : Type) (enc : TypeId × Value → H) (W : World) (base : Nat) (args : Array Value) (ds gs : List (DataW H)) (before : List MemPlace)
    (hval0 : ∀ (j : Nat) t v, Tryd.f3.params[j]? = some t → args[j]? = some v → Value.okWide Tryd.prog W .any base t v)
    (hW : DataW.Whole enc Tryd.prog Tryd.f3.params.toList Rows.nodesPartsSpec.vars false W args.toList ds gs before) (hL : laidMetH Tryd.prog Rows.nodesPartsRow.laid W) :
    Calls Tryd.prog 3 args W fun e W' => ∃ v, e = .returned v ∧ Rows.nodesPartsSpec.post enc Tryd.prog Tryd.f3 false true false false W args v W' := by
  have hval : ∀ (j : Nat) t v, Tryd.f3.params[j]? = some t → args[j]? = some v → Value.okWide Tryd.prog W .any base t v := hval0
  have hW' := hW
  obtain ⟨p, q, hA0, hV, rfl, hfz, hnd⟩ := hW
  have hA : DataW.TrodAll enc Tryd.prog W 0 (fun _ => true) true Tryd.f3.params.toList args.toList ds p := hA0
  rw [Tryd.params3] at hA hval
  obtain ⟨v0, vs0, d0, ds0, p0, q0, hargs, rfl, rfl, h0, r0⟩ := trodAll_cons hA
  obtain ⟨v1, vs1, d1, ds1, p1, q1, rfl, rfl, rfl, h1, r1⟩ := trodAll_cons r0
  obtain ⟨v2, vs2, d2, ds2, p2, q2, rfl, rfl, rfl, h2, r2⟩ := trodAll_cons r1
  obtain ⟨rfl, rfl, rfl⟩ := trodAll_nil r2
  obtain rfl : args = #[v0, v1, v2] := by cases args; simp_all
  obtain ⟨rfl, rfl⟩ := trodVars_none hV
  have k0 := h0
  have lt0 : ∀ x ∈ p0, x.block < W.heap.size := by obtain ⟨m, hm⟩ := k0; exact DataW.trod_lt m _ _ _ hm
  have k1 := h1
  have lt1 : ∀ x ∈ p1, x.block < W.heap.size := by obtain ⟨m, hm⟩ := k1; exact DataW.trod_lt m _ _ _ hm
  have k2 := h2
  have lt2 : ∀ x ∈ p2, x.block < W.heap.size := by obtain ⟨m, hm⟩ := k2; exact DataW.trod_lt m _ _ _ hm
  obtain ⟨x0, rfl, w0, s0, f0⟩ := open_data (d := 8) (sh := cI) (by kernel_rfl) (hval 0 3 v0 rfl rfl) h0
  obtain ⟨x1, rfl, w1, s1, f1⟩ := open_data (d := 8) (sh := cI) (by kernel_rfl) (hval 1 3 v1 rfl rfl) h1
  obtain ⟨x2, rfl, w2, s2, f2⟩ := open_data (d := 8) (sh := cI) (by kernel_rfl) (hval 2 3 v2 rfl rfl) h2
  clear hA0 hval0
  have hJ := JZ_of hL
  have hsz : 2 ≤ W.heap.size := by
    obtain ⟨cs, T, fr, hh, _⟩ := hJ
    exact lt_of_heap hh
  refine ((xz_sound (nodesParts_data x0 w0 s0 f0 x1 w1 s1 f1 x2 w2 s2 f2) W hJ hsz).run [x0.val, x1.val, x2.val] ⟨⟨w0, rfl⟩, ⟨w1, rfl⟩, ⟨w2, rfl⟩, trivial⟩).mono fun e W' ⟨u, he, bel0, hr⟩ => ?_
  have bel := bel0.toK
  obtain rfl : u = .bool true := hr.2
  subst he
  exact ⟨_, rfl, _, _, _, [], _, [], hW', trodAll_mk1 (shut_bool Tryd.underlying4 _), trodAll_cons_mk (Go.RowKit.Below.trod laidOut (by kernel_rfl) (of_decide_eq_true (by kernel_rfl)) k0 bel lt0) (trodAll_cons_mk (Go.RowKit.Below.trod laidOut (by kernel_rfl) (of_decide_eq_true (by kernel_rfl)) k1 bel lt1) (trodAll_cons_mk (Go.RowKit.Below.trod laidOut (by kernel_rfl) (of_decide_eq_true (by kernel_rfl)) k2 bel lt2) trodAll_mk0)), rfl, bel.frame _, fun h => by cases h⟩

def layAs (zs : List Int) : Obj → Obj
  | .cells _ t frozen => .cells (zs.map fun z => Value.int .u8 z).toArray t frozen
  | o => o
/-- A world for the witness: the settled one, the tables as their initialisers lay them. -/
noncomputable def laidWorld (os : Os) : World :=
  { World.holding Tryd.prog os ⟨#[], #[], []⟩ with heap := ((World.holding Tryd.prog os ⟨#[], #[], []⟩).heap.modify 0 (layAs zs32)).modify 1 (layAs zs64) }
theorem laid_met (os : Os) : laidMet Tryd.prog Rows.nodesPartsRow.laid ((laidWorld os).forCall (fun _ _ => 0) ⟨#[], #[.int .i64 0, .int .i64 0, .int .i64 0], []⟩).memory :=
  laidMet_of_run' 8 (by kernel_rfl) (by kernel_rfl)
theorem reads (os : Os) {H : Type} (enc : TypeId × Value → H) : ∃ places, DataW.whole enc Tryd.prog ((laidWorld os).forCall (fun _ _ => 0) ⟨#[], #[.int .i64 0, .int .i64 0, .int .i64 0], []⟩).memory Tryd.f3.params.toList Rows.nodesPartsSpec.vars false #[Value.int .i64 0, .int .i64 0, .int .i64 0].toList 8 = some ([.lit (.int .i64 0), .lit (.int .i64 0), .lit (.int .i64 0)], [], places) :=
  ⟨[], by kernel_rfl⟩
theorem lifted (os : Os) (started : os.Started) (H : Type) (enc : TypeId × Value → H) (F : Stop.Interp) :
    ReturnsInHanded {} Tryd.checked os 3 .any ((OpenSpec.ofChange Rows.nodesPartsSpec).preRow enc Tryd.prog Tryd.f3 Rows.nodesPartsRow.domain false Rows.nodesPartsRow.laid) (((OpenSpec.ofChange Rows.nodesPartsSpec).at F).post enc Tryd.prog Tryd.f3 false true false false) := by
  obtain ⟨places, hx⟩ := reads os enc
  refine returnsInHanded_of_row (C := Tryd.checked) (s := OpenSpec.ofChange Rows.nodesPartsSpec) own started (by kernel_rfl) Tryd.func3
    (witness_row_at (enc := enc) (C := Tryd.checked) false (laidWorld os) #[.int .i64 0, .int .i64 0, .int .i64 0] rfl (by kernel_rfl) (by kernel_rfl) (by kernel_rfl)
      (OpenSpec.preRow_of_cond 8 hx (by kernel_rfl) (fun k hk => by cases hk) (by kernel_rfl) (laid_met os))) ?_
  intro W base args ds gs before hval hW _ _ _ hL _ _
  exact contract H enc W base args ds gs before hval hW hL
theorem said : Rows.NodesPartsSaid :=
  OpenClaim.holds_of_cond 3 Tryd.f3 rfl rfl rfl rfl rfl rfl rfl ⟨rfl, rfl, rfl, rfl, rfl⟩ rfl rfl rfl rfl rfl (by kernel_rfl) Tryd.func3 (by kernel_rfl)
    (of_decide_eq_true (by kernel_rfl)) (by unfold Func.isWrapper; first | (rw [if_pos (by decide +kernel)]; kernel_rfl) | (rw [if_neg (by decide +kernel)]; exact ⟨rfl, rfl⟩))
    (fun os started H enc _ F => by rw [OpenClaim.pre_eq_preRow]; exact lifted os started H enc F)
theorem plain (f : FuncId) (fn : Func) (hf : Tryd.pinned.checked.prog.funcNamed "fingerpost/fingerpostlaw03.NodesParts" = some f) (hfn : Tryd.pinned.checked.prog.funcs[f]? = some fn) :
    false = Tryd.pinned.checked.prog.looks [] ∧ ∀ (j : Nat) t, fn.params[j]? = some t → Tryd.pinned.checked.prog.wantsStandIn t = false := by
  obtain rfl : f = 3 := Option.some.inj ((show Tryd.prog.funcNamed "fingerpost/fingerpostlaw03.NodesParts" = some 3 by kernel_rfl).symm.trans hf) |>.symm
  obtain rfl : fn = Tryd.f3 := (Option.some.inj (Tryd.func3.symm.trans hfn)).symm
  refine ⟨by kernel_rfl, fun j t ht => ?_⟩
  rw [Tryd.params3] at ht
  have hm : t ∈ [3, 3, 3] := by simpa using Array.mem_of_getElem? ht
  have hall : ([3, 3, 3].all fun u => !Tryd.prog.wantsStandIn u) = true := by kernel_rfl
  exact (show Tryd.prog.wantsStandIn t = false by simpa using List.all_eq_true.1 hall t hm)
theorem nodesParts_proved : Rows.NodesPartsCardSaid :=
  Claim7.holds_tied_plain_at .later [] _ _ _ _ said (fun _ h => by cases h) (by kernel_rfl) (fun _ h => by cases h) nodesParts_row_tie rfl ⟨rfl, rfl⟩ (by kernel_rfl) rfl plain (by kernel_rfl)
#print axioms nodesParts_proved
end Go.Proofs.YthpccjgpbcginaaDoor.Ev
