/- strconv.FormatUint at base 10: what it answers where its table lies (its rows of names are printed by mklays.py). -/
import Derived.Test.YtjceimcepogkaaaGreatDoorXo
import Derived.Test.YtjceimcepogkaaaGreatDoorFacts
import Derived.Test.YtjceimcepogkaaaGreatDoorEvN
import Derived.Shelf.Strconv.Itoa1
import Derived.Shelf.Strconv.Itoa2
import Derived.BigCall
import Derived.BigGuard
import Derived.WalkKit
import Derived.Lib.AppendIntMem
import Derived.Lib.ItoaMem
import Derived.Test.YtjceimcepogkaaaGreatDoorNa
namespace Go.Proofs.YtjceimcepogkaaaGreatDoor.Ev
open Go
attribute [local congr] ob_congr sq_congr cd_congr ite_congr1 iter_congr it1_congr jumps_congr
set_option maxRecDepth 100000
set_option linter.unusedSimpArgs false
set_option linter.unusedVariables false
open Go.Shelf Go.RowKit Go.Sort Go.Lib
def fuRen : Go.Shelf.Ren := ⟨fun x => if x = 283 then 142 else if x = 284 then 143 else if x = 285 then 144 else if x = 129 then 150 else if x = 317 then 149 else if x = 318 then 151 else x,
  fun x => if x = 53 then 110 else if x = 46 then 99 else if x = 212 then 152 else if x = 37 then 112 else if x = 51 then 23 else x, fun x => if x = 17 then 0 else x⟩
set_option maxRecDepth 1000000 in
theorem smLays : Go.Proofs.Lays.n283 Tryz.prog fuRen where
  mixed := by rfl
  f283 := by rfl
  t3 := by rfl
  a3 := fun w => by rfl
  z3 := fun w => by rfl
  v3 := fun w => by rfl
  t4 := by rfl
  a4 := fun w => by rfl
  z4 := fun w => by rfl
  v4 := fun w => by rfl
  t9 := by rfl
  a9 := fun w => by rfl
  z9 := fun w => by rfl
  v9 := fun w => by rfl
set_option maxRecDepth 1000000 in
theorem ndLays : Go.Proofs.LaysM.n284 Tryz.prog fuRen where
  mixed := by rfl
  f129 := by rfl
  f284 := by rfl
  f317 := by rfl
  f318 := by rfl
  t0 := by rfl
  a0 := fun w => by rfl
  z0 := fun w => by rfl
  v0 := fun w => by rfl
  t3 := by rfl
  a3 := fun w => by rfl
  z3 := fun w => by rfl
  v3 := fun w => by rfl
  t4 := by rfl
  a4 := fun w => by rfl
  z4 := fun w => by rfl
  v4 := fun w => by rfl
  t5 := by rfl
  a5 := fun w => by rfl
  z5 := fun w => by rfl
  v5 := fun w => by rfl
  t9 := by rfl
  a9 := fun w => by rfl
  z9 := fun w => by rfl
  v9 := fun w => by rfl
  t46 := by rfl
  a46 := fun w => by rfl
  z46 := fun w => by rfl
  v46 := fun w => by rfl
  t53 := by rfl
  a53 := fun w => by rfl
  z53 := fun w => by rfl
  v53 := fun w => by rfl
  t212 := by rfl
  a212 := fun w => by rfl
  z212 := fun w => by rfl
  v212 := fun w => by rfl
  g17 := by kernel_rfl
  i0 := by rfl
  i3 := by rfl
  i4 := by rfl
  i5 := by rfl
  i9 := by rfl
  i46 := by rfl
  i53 := by rfl
  i212 := by rfl
  m17 := by kernel_rfl
set_option maxRecDepth 1000000 in
theorem fbLays : Go.Proofs.Lays.n285 Tryz.prog fuRen where
  mixed := by rfl
  f285 := by rfl
  t0 := by rfl
  a0 := fun w => by rfl
  z0 := fun w => by rfl
  v0 := fun w => by rfl
  t3 := by rfl
  a3 := fun w => by rfl
  z3 := fun w => by rfl
  v3 := fun w => by rfl
  t4 := by rfl
  a4 := fun w => by rfl
  z4 := fun w => by rfl
  v4 := fun w => by rfl
  t5 := by rfl
  a5 := fun w => by rfl
  z5 := fun w => by rfl
  v5 := fun w => by rfl
  t9 := by rfl
  a9 := fun w => by rfl
  z9 := fun w => by rfl
  v9 := fun w => by rfl
  t37 := by rfl
  a37 := fun w => by rfl
  z37 := fun w => by rfl
  v37 := fun w => by rfl
  t51 := by rfl
  a51 := fun w => by rfl
  z51 := fun w => by rfl
  v51 := fun w => by rfl
  t53 := by rfl
  a53 := fun w => by rfl
  z53 := fun w => by rfl
  v53 := fun w => by rfl
theorem fu_small (u : Nat) (hu : u < 100) (w : World) : Calls Tryz.prog 128 #[.int .u64 u, .int .i64 10] w fun e w' => e = .returned (.string ⟨(Lib.decDigits u).toArray⟩) ∧ w' = w := by
  have hsm := Any.internal_strconv_small smLays u hu
  have iu : ((u : Nat) : Int) < 100 := by omega
  go_enter Tryz.func128, Tryz.ntmps128
  go_wp2_with (go_at_call 142; refine (hsm _).mono ?_; rintro e w' ⟨rfl, rfl⟩)
  go_ret
  exact ⟨rfl, rfl⟩
set_option maxHeartbeats 6400000 in
theorem fu_big (u : Nat) (hu : 100 ≤ u) (hu64 : u < 18446744073709551616) (w : World) (htab : Lib.TabIs Tryz.prog w "internal/strconv.uint64pow10" .u64 Lib.pow10Tab) :
    Calls Tryz.prog 128 #[.int .u64 u, .int .i64 10] w fun e w' => e = .returned (.string ⟨(Lib.decDigits u).toArray⟩) ∧ ∃ k os, w' = grow (w.drewN k) os := by
  have hu1 : 1 ≤ u := by omega
  have hnd20 : Lib.nDigits u ≤ 20 := by have := Lib.numDigits_eq u hu1 hu64; split at this <;> omega
  have hal : Tryz.prog.arrayLen 139 = 24 := by rfl
  have hund : Tryz.prog.underlying 139 = some (.array 24 5) := by rfl
  have hsl : ∀ W, (Instr.sliceAt 139 (.pointer (some ⟨w.heap.size, 0, none⟩)) none (some (.int .i64 (Lib.nDigits u : Int))) none).run Tryz.prog W = .ok (.slice (some ⟨w.heap.size, 0, none⟩) (Lib.nDigits u) 24) W := fun W => by
    rw [run_sliceAt_array_h W 139 ⟨w.heap.size, 0, none⟩ (by simp [Program.arrayLen, Program.elem, hund]) .i64 (Lib.nDigits u : Int) (by omega) (by rw [hal]; omega)]
    go_simp
  have hH0 := Lib.holds_zero0 w 139 (Lib.nDigits u) (by omega)
  have hfmt := Any.internal_strconv_formatBase10 fbLays w.heap.size 0 24 u (Array.replicate (Lib.nDigits u) 0) (w.alloc (.cells Lib.zeros24 139)) hH0 (by rw [Array.size_replicate]; exact Lib.lt_pow_nDigits u) hu64 (by rw [Array.size_replicate]; omega)
  have hnum := Any.internal_strconv_numDigits ndLays u hu1 hu64 _ (Lib.tabIs_alloc htab (.cells Lib.zeros24 139))
  rw [Array.size_replicate] at hfmt
  have HH0 := Lib.hid hH0
  have iu : (100 : Int) ≤ (u : Int) := by omega
  clear hH0 hal
  go_enter Tryz.func128, Tryz.ntmps128
  go_wp2_with (first
    | (go_at_call 143; refine hnum.mono ?_; rintro e w' ⟨rfl, rfl⟩))
  go_at_call 144
  refine hfmt.mono ?_
  rintro e w' ⟨rfl, k, v', dk, rfl, hF⟩
  have hcv : (convert 112 9 (.slice (some ⟨w.heap.size, 0, none⟩) (Lib.nDigits u) 24)).run Tryz.prog ((putRow (fun (b : UInt8) => Value.int .u8 (b.toNat : Int)) (w.alloc (.cells Lib.zeros24 139)) w.heap.size 0 dk).drewN k) = .ok (.string ⟨(Lib.decDigits u).toArray⟩) ((putRow (fun (b : UInt8) => Value.int .u8 (b.toNat : Int)) (w.alloc (.cells Lib.zeros24 139)) w.heap.size 0 dk).drewN k) := by
    have h := run_convert_bytes_back (P := Tryz.prog) ((putRow (fun (b : UInt8) => Value.int .u8 (b.toNat : Int)) (w.alloc (.cells Lib.zeros24 139)) w.heap.size 0 dk).drewN k) 112 9 5 ⟨w.heap.size, 0, none⟩ 24 (Lib.decDigits u) (by rfl) (by rfl) (by rfl) (fun j hj => by
      rw [Lib.row_is_numeral hF j hj, Lib.add_plain, World.cell?_drewN]
      exact cell?_putRow (fun (b : UInt8) => Value.int .u8 (b.toNat : Int)) _ w.heap.size 0 _ dk HH0.out (by rw [hF.size, Array.size_replicate]) j (by rw [hF.size]; rw [Lib.decDigits_length] at hj; exact hj))
    rw [Lib.decDigits_length] at h
    exact h
  go_wp2
  go_ret
  obtain ⟨os, eo⟩ := Lib.fin_at w (.cells Lib.zeros24 139) dk k 0
  exact ⟨rfl, k, os, eo⟩
end Go.Proofs.YtjceimcepogkaaaGreatDoor.Ev
/- Sets of nodes as numbers, bit by bit: plain laws of the functions of nodes. -/
namespace Go.Proofs.YtjceimcepogkaaaGreatDoor.Ev
open Go
set_option linter.unusedSimpArgs false
set_option linter.unusedVariables false

theorem right_eq {n : Int} (h : right n = true) : ∃ m : Nat, m < 16 ∧ n = (m : Int) := by
  obtain ⟨h0, h1⟩ := right_nn h
  exact ⟨n.toNat, by omega, by omega⟩
theorem has_tb {s : Int} (hs : inI s) (n : Int) : has s n = (right n && tb s n.toNat) := by
  unfold has
  by_cases h : right n = true
  · obtain ⟨m, hm, rfl⟩ := right_eq h
    rw [h, Int.toNat_natCast, Nat.min_eq_left (by omega), low_bit hs (by omega)]
  · simp [h]
theorem has_nat {s : Int} (hs : inI s) {m : Nat} (h : m < 16) : has s m = tb s m := by
  rw [has_tb hs, right_of h]; simp
theorem inI_withN {s : Int} (hs : inI s) (n : Int) : inI (withN s n) := by
  unfold withN; split
  · exact inI_bits _ _ _
  · exact hs
theorem inI_withoutN {s : Int} (hs : inI s) (n : Int) : inI (withoutN s n) := by
  unfold withoutN; split
  · exact inI_bits _ _ _
  · exact hs
theorem tb_withN (s n : Int) (i : Nat) : tb (withN s n) i = (tb s i || (right n && decide (i = n.toNat))) := by
  unfold withN
  by_cases h : right n = true
  · obtain ⟨m, hm, rfl⟩ := right_eq h
    rw [if_pos h, h, Int.toNat_natCast, Nat.min_eq_left (by omega), tb_or, tb_pow (by omega)]
    simp
  · simp [h]
theorem tb_withoutN (s n : Int) (i : Nat) : tb (withoutN s n) i = (tb s i && !(right n && decide (i = n.toNat))) := by
  unfold withoutN
  by_cases h : right n = true
  · obtain ⟨m, hm, rfl⟩ := right_eq h
    rw [if_pos h, h, Int.toNat_natCast, Nat.min_eq_left (by omega)]
    by_cases hi : i < 64
    · rw [tb_andNot _ _ hi, tb_pow (by omega)]
      simp
    · rw [tb_big _ (by omega), tb_big _ (by omega)]; rfl
  · simp [h]
theorem inI_zero : inI 0 := by unfold inI; omega
theorem inI_setOf (c : Nat → Bool) : ∀ n, inI (setOf c n)
  | 0 => inI_zero
  | n + 1 => by
    show inI (if c n = true then withN (setOf c n) n else setOf c n)
    split
    · exact inI_withN (inI_setOf c n) _
    · exact inI_setOf c n
theorem tb_setOf (c : Nat → Bool) (i : Nat) : ∀ n, n ≤ 16 → tb (setOf c n) i = (decide (i < n) && c i)
  | 0, _ => by show tb 0 i = _; rw [tb_zero]; simp
  | n + 1, hn => by
    show tb (if c n = true then withN (setOf c n) n else setOf c n) i = _
    have ih := tb_setOf c i n (by omega)
    by_cases h : c n = true
    · rw [if_pos h, tb_withN, ih, right_of (by omega : n < 16)]
      by_cases e : i = n
      · subst e; simp [h]
      · have : (decide (i < n + 1)) = decide (i < n) := by simp; omega
        simp [e, this]
    · rw [if_neg h, ih]
      by_cases e : i = n
      · subst e; simp [h]
      · have : (decide (i < n + 1)) = decide (i < n) := by simp; omega
        simp [e, this]
theorem has_setOf (c : Nat → Bool) {m : Nat} (h : m < 16) : has (setOf c 16) m = c m := by
  rw [has_nat (inI_setOf c 16) h, tb_setOf c m 16 (Nat.le_refl _)]; simp [h]
/-- Two sets that have the same nodes, and no other bits. -/
theorem low_ext {s t : Int} (hs : inI s) (ht : inI t) (ls : ∀ i, 16 ≤ i → tb s i = false) (lt : ∀ i, 16 ≤ i → tb t i = false) (h : ∀ m : Nat, m < 16 → has s m = has t m) : s = t := by
  refine tb_ext hs ht fun i _ => ?_
  by_cases hi : i < 16
  · rw [← has_nat hs hi, ← has_nat ht hi]; exact h i hi
  · rw [ls i (by omega), lt i (by omega)]
theorem upto_at (c : Nat → Bool) (g : Nat → Int → Int) (l : Nat → Int) (i : Nat) : ∀ n, upto (fun k l => if c k = true then setN l k (g k (l k)) else l) l n i = if i < n ∧ c i = true then g i (l i) else l i
  | 0 => by simp [upto]
  | n + 1 => by
    have ih := fun j => upto_at c g l j n
    simp only [upto]
    by_cases hc : c n = true
    · simp only [hc, if_true, setN]
      by_cases hi : i = n
      · subst hi
        simp [hc, upto_at c g l i i]
      · rw [if_neg hi, upto_at c g l i n]
        have : (i < n + 1) = (i < n) := by simp; omega
        simp [this]
    · simp only [hc, if_false, Bool.false_eq_true]
      rw [upto_at c g l i n]
      by_cases hi : i = n
      · subst hi; simp [hc]
      · have : (i < n + 1) = (i < n) := by simp; omega
        simp [this]

end Go.Proofs.YtjceimcepogkaaaGreatDoor.Ev
/- What the functions of phase compute. -/
namespace Go.Proofs.YtjceimcepogkaaaGreatDoor.Ev
open Go
attribute [local congr] ob_congr sq_congr cd_congr ite_congr1 iter_congr it1_congr jumps_congr
set_option maxRecDepth 100000
set_option linter.unusedSimpArgs false
set_option linter.unusedVariables false

abbrev shP : Sh := .cons cI (.cons (.arr 16 cI) .nil)
abbrev phD (a : Int) (w : Nat → Int) : D := .cons (.s (.int .i64 a)) (.cons (arr16 w) .nil)
def replyW (j n : Int) (w : Nat → Int) : Nat → Int := if right j = true then setN w j.toNat (withoutN (w j.toNat) n) else w
theorem reply_ev (k : Nat) (a : Int) (w : Nat → Int) (j n : Int) : evF Tryz.prog env xt (k+3) 76 [.d (phD a w), .d (.s (.int .i64 (j))), .d (.s (.int .i64 (n)))] = some (.d (phD a (replyW j n w))) := by
  rw [evF_eq Tryz.func76 (show Tryz.f76.body = some _ from rfl) rfl rfl rfl (by show 3 ≤ 19; decide)]
  by_cases h : right j = true
  · have hn := right_nn h
    simp (decide := true) only [h, hn, right_ev, without_ev, replyW, Tryz.f76, rid, ↓sBp, sBq, List.all_cons, List.all_nil, List.map_cons, List.map_nil, D.shape, Sh.sub, Sh.size, List.getElem?_cons_zero, List.getElem?_cons_succ, Option.bind_some, Option.bind_none, Option.getD_some, Option.getD_none, V.keysIn, V.kill, V.has, decide_eq_true_eq, beq_iff_eq, bne_iff_ne, ne_eq, Bool.not_eq_true', Bool.and_true, Bool.and_self, Bool.true_and, if_true, if_false, reduceIte, Bool.false_eq_true, decide_true, decide_false, beq_self_eq_true, Bool.not_true, Bool.not_false, true_and, and_true, and_self, List.append_assoc, List.nil_append, List.cons_append, Int.toNat_natCast, ck, Int.cast_ofNat_Int, Int.reduceToNat, bne_self_eq_false, Bool.or_false, Bool.false_or, Bool.false_and, Bool.and_false, Bool.or_true, Bool.true_or]
  · simp (decide := true) only [h, right_ev, replyW, Tryz.f76, rid, ↓sBp, sBq, List.all_cons, List.all_nil, List.map_cons, List.map_nil, D.shape, Sh.sub, Sh.size, List.getElem?_cons_zero, List.getElem?_cons_succ, Option.bind_some, Option.bind_none, Option.getD_some, Option.getD_none, V.keysIn, V.kill, V.has, decide_eq_true_eq, beq_iff_eq, bne_iff_ne, ne_eq, Bool.not_eq_true', Bool.and_true, Bool.and_self, Bool.true_and, if_true, if_false, reduceIte, Bool.false_eq_true, decide_true, decide_false, beq_self_eq_true, Bool.not_true, Bool.not_false, true_and, and_true, and_self, List.append_assoc, List.nil_append, List.cons_append, Int.toNat_natCast, ck, Int.cast_ofNat_Int, Int.reduceToNat, bne_self_eq_false, Bool.or_false, Bool.false_or, Bool.false_and, Bool.and_false, Bool.or_true, Bool.true_or]

theorem gone_ev (d : Nat) (a : Int) (w : Nat → Int) (n : Int) : evF Tryz.prog env xt (d+4) 78 [.d (phD a w), .d (.s (.int .i64 (n)))] = some (.d (phD a (upto (fun k w => replyW k n w) w 16))) := by
  rw [evF_eq Tryz.func78 (show Tryz.f78.body = some _ from rfl) rfl rfl rfl (by show 2 ≤ 15; decide)]
  simp (decide := true) only [Tryz.f78, rid, kl78_2, ↓sBp, sBq, List.all_cons, List.all_nil, List.map_cons, List.map_nil, D.shape, Sh.sub, Sh.size, List.getElem?_cons_zero, List.getElem?_cons_succ, Option.bind_some, Option.bind_none, Option.getD_some, Option.getD_none, V.keysIn, V.kill, V.has, decide_eq_true_eq, beq_iff_eq, bne_iff_ne, ne_eq, Bool.not_eq_true', Bool.and_true, Bool.and_self, Bool.true_and, if_true, if_false, reduceIte, Bool.false_eq_true, decide_true, decide_false, beq_self_eq_true, Bool.not_true, Bool.not_false, true_and, and_true, and_self, List.append_assoc, List.nil_append, List.cons_append, Int.toNat_natCast, ck, Int.cast_ofNat_Int, Int.reduceToNat, bne_self_eq_false, Bool.or_false, Bool.false_or, Bool.false_and, Bool.and_false, Bool.or_true, Bool.true_or]
  rw [iter_run (S := fun k => ⟨tab .junk [(1, .d (.s (.int .i64 (n)))), (2, .ptr 2 shP [] shP), (4, .ptr 4 shP [] shP), (6, .d (.s (.int .i64 (k))))], tab none [(2, some (.box (phD a (upto (fun k w => replyW k n w) w k)))), (4, some (.box (Z43)))]⟩) (n := 16) (h0 := ?h0) (hn := lt_loopFuel (by decide)) (step := ?step)]
  case h0 => rfl
  case step =>
    intro k hk
    have hk1 : (k : Int) < 16 := by omega
    have hk0 : (0 : Int) ≤ k := by omega
    have hkw := wrap_succ k (by omega)
    simp (decide := true) only [hk1, hk0, hkw, reply_ev, upto, Tryz.f78, rid, kl78_2, ↓sBp, sBq, List.all_cons, List.all_nil, List.map_cons, List.map_nil, D.shape, Sh.sub, Sh.size, List.getElem?_cons_zero, List.getElem?_cons_succ, Option.bind_some, Option.bind_none, Option.getD_some, Option.getD_none, V.keysIn, V.kill, V.has, decide_eq_true_eq, beq_iff_eq, bne_iff_ne, ne_eq, Bool.not_eq_true', Bool.and_true, Bool.and_self, Bool.true_and, if_true, if_false, reduceIte, Bool.false_eq_true, decide_true, decide_false, beq_self_eq_true, Bool.not_true, Bool.not_false, true_and, and_true, and_self, List.append_assoc, List.nil_append, List.cons_append, Int.toNat_natCast, ck, Int.cast_ofNat_Int, Int.reduceToNat, bne_self_eq_false, Bool.or_false, Bool.false_or, Bool.false_and, Bool.and_false, Bool.or_true, Bool.true_or]
  simp (decide := true) only [Tryz.f78, rid, kl78_2, ↓sBp, sBq, List.all_cons, List.all_nil, List.map_cons, List.map_nil, D.shape, Sh.sub, Sh.size, List.getElem?_cons_zero, List.getElem?_cons_succ, Option.bind_some, Option.bind_none, Option.getD_some, Option.getD_none, V.keysIn, V.kill, V.has, decide_eq_true_eq, beq_iff_eq, bne_iff_ne, ne_eq, Bool.not_eq_true', Bool.and_true, Bool.and_self, Bool.true_and, if_true, if_false, reduceIte, Bool.false_eq_true, decide_true, decide_false, beq_self_eq_true, Bool.not_true, Bool.not_false, true_and, and_true, and_self, List.append_assoc, List.nil_append, List.cons_append, Int.toNat_natCast, ck, Int.cast_ofNat_Int, Int.reduceToNat, bne_self_eq_false, Bool.or_false, Bool.false_or, Bool.false_and, Bool.and_false, Bool.or_true, Bool.true_or]

theorem start_ev (k : Nat) (a : Int) (w : Nat → Int) (j up : Int) : evF Tryz.prog env xt (k+3) 133 [.d (phD a w), .d (.s (.int .i64 (j))), .d (.s (.int .i64 (up)))] =
    some (.d (if right j = true ∧ has a j = false then phD (withN a j) (setN w j.toNat (bits .and .i64 up 65535)) else phD a w)) := by
  rw [evF_eq Tryz.func133 (show Tryz.f133.body = some _ from rfl) rfl rfl rfl (by show 3 ≤ 27; decide)]
  by_cases h : right j = true
  · have hn := right_nn h
    by_cases h2 : has a j = true
    · simp (decide := true) only [h, hn, h2, right_ev, has_ev, with_ev, Tryz.f133, rid, ↓sBp, sBq, List.all_cons, List.all_nil, List.map_cons, List.map_nil, D.shape, Sh.sub, Sh.size, List.getElem?_cons_zero, List.getElem?_cons_succ, Option.bind_some, Option.bind_none, Option.getD_some, Option.getD_none, V.keysIn, V.kill, V.has, decide_eq_true_eq, beq_iff_eq, bne_iff_ne, ne_eq, Bool.not_eq_true', Bool.and_true, Bool.and_self, Bool.true_and, if_true, if_false, reduceIte, Bool.false_eq_true, decide_true, decide_false, beq_self_eq_true, Bool.not_true, Bool.not_false, true_and, and_true, and_self, List.append_assoc, List.nil_append, List.cons_append, Int.toNat_natCast, ck, Int.cast_ofNat_Int, Int.reduceToNat, bne_self_eq_false, Bool.or_false, Bool.false_or, Bool.false_and, Bool.and_false, Bool.or_true, Bool.true_or]
    · have h3 : has a j = false := by simpa using h2
      simp (decide := true) only [h, hn, h3, right_ev, has_ev, with_ev, Tryz.f133, rid, ↓sBp, sBq, List.all_cons, List.all_nil, List.map_cons, List.map_nil, D.shape, Sh.sub, Sh.size, List.getElem?_cons_zero, List.getElem?_cons_succ, Option.bind_some, Option.bind_none, Option.getD_some, Option.getD_none, V.keysIn, V.kill, V.has, decide_eq_true_eq, beq_iff_eq, bne_iff_ne, ne_eq, Bool.not_eq_true', Bool.and_true, Bool.and_self, Bool.true_and, if_true, if_false, reduceIte, Bool.false_eq_true, decide_true, decide_false, beq_self_eq_true, Bool.not_true, Bool.not_false, true_and, and_true, and_self, List.append_assoc, List.nil_append, List.cons_append, Int.toNat_natCast, ck, Int.cast_ofNat_Int, Int.reduceToNat, bne_self_eq_false, Bool.or_false, Bool.false_or, Bool.false_and, Bool.and_false, Bool.or_true, Bool.true_or]
  · simp (decide := true) only [h, right_ev, has_ev, with_ev, false_and, Tryz.f133, rid, ↓sBp, sBq, List.all_cons, List.all_nil, List.map_cons, List.map_nil, D.shape, Sh.sub, Sh.size, List.getElem?_cons_zero, List.getElem?_cons_succ, Option.bind_some, Option.bind_none, Option.getD_some, Option.getD_none, V.keysIn, V.kill, V.has, decide_eq_true_eq, beq_iff_eq, bne_iff_ne, ne_eq, Bool.not_eq_true', Bool.and_true, Bool.and_self, Bool.true_and, if_true, if_false, reduceIte, Bool.false_eq_true, decide_true, decide_false, beq_self_eq_true, Bool.not_true, Bool.not_false, true_and, and_true, and_self, List.append_assoc, List.nil_append, List.cons_append, Int.toNat_natCast, ck, Int.cast_ofNat_Int, Int.reduceToNat, bne_self_eq_false, Bool.or_false, Bool.false_or, Bool.false_and, Bool.and_false, Bool.or_true, Bool.true_or]

def done1 (w : Nat → Int) (L : List Int) (k : Nat) (s : Int) : Int := if w (L.getD k 0).toNat = 0 then withN s (L.getD k 0) else s
theorem done_ev (d : Nat) (a : Int) (w : Nat → Int) : evF Tryz.prog env xt (d+4) 82 [.d (phD a w)] = some (.d (.s (.int .i64 (upto (done1 w (listTo a 16)) 0 (listTo a 16).length)))) := by
  rw [evF_eq Tryz.func82 (show Tryz.f82.body = some _ from rfl) rfl rfl rfl (by show 1 ≤ 24; decide)]
  simp (decide := true) only [list_ev, Tryz.f82, rid, kl82_3, ↓sBp, sBq, List.all_cons, List.all_nil, List.map_cons, List.map_nil, D.shape, Sh.sub, Sh.size, List.getElem?_cons_zero, List.getElem?_cons_succ, Option.bind_some, Option.bind_none, Option.getD_some, Option.getD_none, V.keysIn, V.kill, V.has, decide_eq_true_eq, beq_iff_eq, bne_iff_ne, ne_eq, Bool.not_eq_true', Bool.and_true, Bool.and_self, Bool.true_and, if_true, if_false, reduceIte, Bool.false_eq_true, decide_true, decide_false, beq_self_eq_true, Bool.not_true, Bool.not_false, true_and, and_true, and_self, List.append_assoc, List.nil_append, List.cons_append, Int.toNat_natCast, ck, Int.cast_ofNat_Int, Int.reduceToNat, bne_self_eq_false, Bool.or_false, Bool.false_or, Bool.false_and, Bool.and_false, Bool.or_true, Bool.true_or]
  have hlen := listTo_len a 16
  have hle := ints_length (listTo a 16)
  rw [iter_run (S := fun k => ⟨tab .junk [(1, .ptr 1 shP [] shP), (3, .d (.s (.int .i64 (upto (done1 w (listTo a 16)) 0 k)))), (8, .sl (.tg 8) cI (ints (listTo a 16))), (9, .d (.s (.int .i64 ((listTo a 16).length)))), (10, .d (.s (.int .i64 (k))))], tab none [(1, some (.box (phD a w))), (8, some .row), (21, none)]⟩) (n := (listTo a 16).length) (h0 := ?h0) (hn := ?hn) (step := ?step)]
  case h0 => rw [hle]; rfl
  case hn => exact lt_loopFuel (by omega)
  case step =>
    intro k hk
    have hk1 : (k : Int) < ((listTo a 16).length : Int) := by omega
    have hk0 : (0 : Int) ≤ k := by omega
    have hkw := wrap_succ k (by omega)
    obtain ⟨m, hm, hh, he⟩ := listTo_get a hk
    have hi := ints_get he
    have hg : (listTo a 16).getD k 0 = (m : Int) := by simp [List.getD, he]
    have hm1 : (m : Int) < 16 := by omega
    have hm0 : (0 : Int) ≤ m := by omega
    by_cases h : w m = 0
    · simp (decide := true) only [hk1, hk0, hkw, hi, hm1, hm0, with_ev, upto, done1, hg, h, Tryz.f82, rid, kl82_3, ↓sBp, sBq, List.all_cons, List.all_nil, List.map_cons, List.map_nil, D.shape, Sh.sub, Sh.size, List.getElem?_cons_zero, List.getElem?_cons_succ, Option.bind_some, Option.bind_none, Option.getD_some, Option.getD_none, V.keysIn, V.kill, V.has, decide_eq_true_eq, beq_iff_eq, bne_iff_ne, ne_eq, Bool.not_eq_true', Bool.and_true, Bool.and_self, Bool.true_and, if_true, if_false, reduceIte, Bool.false_eq_true, decide_true, decide_false, beq_self_eq_true, Bool.not_true, Bool.not_false, true_and, and_true, and_self, List.append_assoc, List.nil_append, List.cons_append, Int.toNat_natCast, ck, Int.cast_ofNat_Int, Int.reduceToNat, bne_self_eq_false, Bool.or_false, Bool.false_or, Bool.false_and, Bool.and_false, Bool.or_true, Bool.true_or]
    · simp (decide := true) only [hk1, hk0, hkw, hi, hm1, hm0, with_ev, upto, done1, hg, h, Tryz.f82, rid, kl82_3, ↓sBp, sBq, List.all_cons, List.all_nil, List.map_cons, List.map_nil, D.shape, Sh.sub, Sh.size, List.getElem?_cons_zero, List.getElem?_cons_succ, Option.bind_some, Option.bind_none, Option.getD_some, Option.getD_none, V.keysIn, V.kill, V.has, decide_eq_true_eq, beq_iff_eq, bne_iff_ne, ne_eq, Bool.not_eq_true', Bool.and_true, Bool.and_self, Bool.true_and, if_true, if_false, reduceIte, Bool.false_eq_true, decide_true, decide_false, beq_self_eq_true, Bool.not_true, Bool.not_false, true_and, and_true, and_self, List.append_assoc, List.nil_append, List.cons_append, Int.toNat_natCast, ck, Int.cast_ofNat_Int, Int.reduceToNat, bne_self_eq_false, Bool.or_false, Bool.false_or, Bool.false_and, Bool.and_false, Bool.or_true, Bool.true_or]
  simp (decide := true) only [Int.lt_irrefl, Tryz.f82, rid, kl82_3, ↓sBp, sBq, List.all_cons, List.all_nil, List.map_cons, List.map_nil, D.shape, Sh.sub, Sh.size, List.getElem?_cons_zero, List.getElem?_cons_succ, Option.bind_some, Option.bind_none, Option.getD_some, Option.getD_none, V.keysIn, V.kill, V.has, decide_eq_true_eq, beq_iff_eq, bne_iff_ne, ne_eq, Bool.not_eq_true', Bool.and_true, Bool.and_self, Bool.true_and, if_true, if_false, reduceIte, Bool.false_eq_true, decide_true, decide_false, beq_self_eq_true, Bool.not_true, Bool.not_false, true_and, and_true, and_self, List.append_assoc, List.nil_append, List.cons_append, Int.toNat_natCast, ck, Int.cast_ofNat_Int, Int.reduceToNat, bne_self_eq_false, Bool.or_false, Bool.false_or, Bool.false_and, Bool.and_false, Bool.or_true, Bool.true_or]
end Go.Proofs.YtjceimcepogkaaaGreatDoor.Ev
/- Sets, phases and numbers as texts: what nodes.Text, phase.Text and the document's compute. -/
namespace Go.Proofs.YtjceimcepogkaaaGreatDoor.Ev
open Go
attribute [local congr] ob_congr sq_congr cd_congr ite_congr1 iter_congr it1_congr jumps_congr
set_option maxRecDepth 100000
set_option linter.unusedSimpArgs false
set_option linter.unusedVariables false
def letD (n : Int) : D := .s (.int .u8 (IntKind.u8.wrap (97 + n)))
def lets (l : List Int) : List D := l.map letD
theorem lets_nil : lets [] = [] := nr rfl
theorem lets_length (l : List Int) : (lets l).length = l.length := List.length_map ..
theorem lets_snoc (l : List Int) (n : Int) : lets l ++ [.s (.int .u8 (IntKind.u8.wrap (97 + n)))] = lets (l ++ [n]) := by simp [lets, letD]
theorem bytesOf_append (a b : List D) : bytesOf (a ++ b) = bytesOf a ++ bytesOf b := by
  unfold bytesOf
  rw [List.map_append]
  apply ByteArray.ext
  simp
theorem bytesOf_size (a : List D) : (bytesOf a).size = a.length := by unfold bytesOf; simp [ByteArray.size]
theorem bytesOf_nil : bytesOf [] = ⟨#[]⟩ := nr rfl
theorem eq_of_beqB {a b : ByteArray} (h : (a == b) = true) : a = b := by
  rw [beq_toListBytes, ByteArray.toList_eq, ByteArray.toList_eq] at h
  have h := eq_of_beq h
  obtain ⟨a⟩ := a
  obtain ⟨b⟩ := b
  exact congrArg ByteArray.mk (Array.ext' h)
theorem beqB_refl (a : ByteArray) : (a == a) = true := by rw [beq_toListBytes]; simp
def dotB : ByteArray := ⟨#[46]⟩
def textF (s : Int) : ByteArray := if listTo s 16 = [] then dotB else bytesOf (lets (listTo s 16))
theorem textF_size (s : Int) : (textF s).size ≤ 16 := by
  unfold textF
  split
  · decide
  · rw [bytesOf_size, lets_length]; exact listTo_len s 16
theorem low_zero {s : Int} (hs : inI s) : (bits .and .i64 s 65535 = 0) ↔ listTo s 16 = [] := by
  constructor
  · intro h
    refine List.eq_nil_of_length_eq_zero (Classical.byContradiction fun hn => ?_)
    obtain ⟨m, hm, hh, _⟩ := listTo_get s (show 0 < (listTo s 16).length by omega)
    have h1 := tb_and s 65535 m
    rw [h, tb_zero, tb_ones16, ← has_nat hs hm, hh] at h1
    simp [hm] at h1
  · intro h
    refine tb_ext (inI_bits _ _ _) inI_zero fun i _ => ?_
    rw [tb_and, tb_ones16, tb_zero]
    by_cases hi : i < 16
    · cases hh : tb s i with
      | false => rfl
      | true =>
        rw [← has_nat hs hi] at hh
        have : ((i : Nat) : Int) ∈ listTo s 16 := by
          unfold listTo
          rw [List.mem_map]
          exact ⟨i, by rw [List.mem_filter]; exact ⟨by simpa using hi, hh⟩, rfl⟩
        rw [h] at this; cases this
    · simp [hi]
theorem text_ev (k : Nat) {s : Int} (hs : inI s) : evF Tryz.prog env xt (k+4) 56 [.d (.s (.int .i64 (s)))] = some (.d (.s (.string (textF s)))) := by
  rw [evF_eq Tryz.func56 (show Tryz.f56.body = some _ from rfl) rfl rfl rfl (by show 1 ≤ 26; decide)]
  by_cases h : listTo s 16 = []
  · have h0 : (bits .and .i64 s 65535 == 0) = true := by simpa using (low_zero hs).2 h
    have e : textF s = ⟨#[46]⟩ := if_pos h
    simp (decide := true) only [h0, e, Tryz.f56, rid, kl56_5, ↓sBp, sBq, List.all_cons, List.all_nil, List.map_cons, List.map_nil, D.shape, Sh.sub, Sh.size, List.getElem?_cons_zero, List.getElem?_cons_succ, Option.bind_some, Option.bind_none, Option.getD_some, Option.getD_none, V.keysIn, V.kill, V.has, decide_eq_true_eq, beq_iff_eq, bne_iff_ne, ne_eq, Bool.not_eq_true', Bool.and_true, Bool.and_self, Bool.true_and, if_true, if_false, reduceIte, Bool.false_eq_true, decide_true, decide_false, beq_self_eq_true, Bool.not_true, Bool.not_false, true_and, and_true, and_self, List.append_assoc, List.nil_append, List.cons_append, Int.toNat_natCast, ck, Int.cast_ofNat_Int, Int.reduceToNat, bne_self_eq_false, Bool.or_false, Bool.false_or, Bool.false_and, Bool.and_false, Bool.or_true, Bool.true_or]
    try rfl
  · have h0 : (bits .and .i64 s 65535 == 0) = false := by simpa using fun q => h ((low_zero hs).1 q)
    have e : textF s = bytesOf (lets (listTo s 16)) := if_neg h
    have hle := ints_length (listTo s 16)
    have hlen := listTo_len s 16
    have hc0 : ((0 : Int) ≤ 0 ∧ (0 : Int) ≤ 16 ∧ (16 : Int) ≤ 1000) = True := by simp
    simp (decide := true) only [h0, list_ev, List.replicate_zero, hc0, Tryz.f56, rid, kl56_5, ↓sBp, sBq, List.all_cons, List.all_nil, List.map_cons, List.map_nil, D.shape, Sh.sub, Sh.size, List.getElem?_cons_zero, List.getElem?_cons_succ, Option.bind_some, Option.bind_none, Option.getD_some, Option.getD_none, V.keysIn, V.kill, V.has, decide_eq_true_eq, beq_iff_eq, bne_iff_ne, ne_eq, Bool.not_eq_true', Bool.and_true, Bool.and_self, Bool.true_and, if_true, if_false, reduceIte, Bool.false_eq_true, decide_true, decide_false, beq_self_eq_true, Bool.not_true, Bool.not_false, true_and, and_true, and_self, List.append_assoc, List.nil_append, List.cons_append, Int.toNat_natCast, ck, Int.cast_ofNat_Int, Int.reduceToNat, bne_self_eq_false, Bool.or_false, Bool.false_or, Bool.false_and, Bool.and_false, Bool.or_true, Bool.true_or]
    rw [iter_run (S := fun k => ⟨tab .junk [(3, .sl (.tg 9) (.cell (.int .u8)) (lets ((listTo s 16).take k))), (11, .sl (.tg 11) cI (ints (listTo s 16))), (12, .d (.s (.int .i64 ((listTo s 16).length)))), (13, .d (.s (.int .i64 (k))))], tab none [(9, some .row), (11, some .row), (22, none)]⟩) (n := (listTo s 16).length) (h0 := ?h0) (hn := ?hn) (step := ?step)]
    case h0 => rw [hle]; rfl
    case hn => exact lt_loopFuel (by omega)
    case step =>
      intro k hk
      have hk1 : (k : Int) < ((listTo s 16).length : Int) := by omega
      have hk0 : (0 : Int) ≤ k := by omega
      have hkw := wrap_succ k (by omega)
      obtain ⟨m, hm, hh, he⟩ := listTo_get s hk
      have hi := ints_get he
      have ht : (listTo s 16).take (k + 1) = (listTo s 16).take k ++ [(m : Int)] := by
        rw [List.take_succ_eq_append_getElem hk]; rw [List.getElem?_eq_getElem hk] at he; rw [Option.some.inj he]
      have hl2 : ((listTo s 16).take k).length ≤ 16 := Nat.le_trans (List.length_take_le' _ _) hlen
      have hw : IntKind.i64.wrap (97 + (m : Int)) = 97 + (m : Int) := wrap_id ⟨by omega, by omega⟩
      have hc := app_ok (sh := .cell (.int .u8)) (lets ((listTo s 16).take k)) 1 (by omega) (by rw [lets_length]; omega)
      simp (decide := true) only [hk1, hk0, hkw, hi, rep1, List.length_singleton, hc, hw, ht, lets_snoc, Tryz.f56, rid, kl56_5, ↓sBp, sBq, List.all_cons, List.all_nil, List.map_cons, List.map_nil, D.shape, Sh.sub, Sh.size, List.getElem?_cons_zero, List.getElem?_cons_succ, Option.bind_some, Option.bind_none, Option.getD_some, Option.getD_none, V.keysIn, V.kill, V.has, decide_eq_true_eq, beq_iff_eq, bne_iff_ne, ne_eq, Bool.not_eq_true', Bool.and_true, Bool.and_self, Bool.true_and, if_true, if_false, reduceIte, Bool.false_eq_true, decide_true, decide_false, beq_self_eq_true, Bool.not_true, Bool.not_false, true_and, and_true, and_self, List.append_assoc, List.nil_append, List.cons_append, Int.toNat_natCast, ck, Int.cast_ofNat_Int, Int.reduceToNat, bne_self_eq_false, Bool.or_false, Bool.false_or, Bool.false_and, Bool.and_false, Bool.or_true, Bool.true_or]
    simp (decide := true) only [Int.lt_irrefl, List.take_length, e, Tryz.f56, rid, kl56_5, ↓sBp, sBq, List.all_cons, List.all_nil, List.map_cons, List.map_nil, D.shape, Sh.sub, Sh.size, List.getElem?_cons_zero, List.getElem?_cons_succ, Option.bind_some, Option.bind_none, Option.getD_some, Option.getD_none, V.keysIn, V.kill, V.has, decide_eq_true_eq, beq_iff_eq, bne_iff_ne, ne_eq, Bool.not_eq_true', Bool.and_true, Bool.and_self, Bool.true_and, if_true, if_false, reduceIte, Bool.false_eq_true, decide_true, decide_false, beq_self_eq_true, Bool.not_true, Bool.not_false, true_and, and_true, and_self, List.append_assoc, List.nil_append, List.cons_append, Int.toNat_natCast, ck, Int.cast_ofNat_Int, Int.reduceToNat, bne_self_eq_false, Bool.or_false, Bool.false_or, Bool.false_and, Bool.and_false, Bool.or_true, Bool.true_or]
theorem letter_ev (k : Nat) (n : Int) (h0 : 0 ≤ n) (h1 : n < 16) : evF Tryz.prog env xt (k+1) 109 [.d (.s (.int .i64 (n)))] = some (.d (.s (.string (bytesOf (lets [n]))))) := by
  rw [evF_eq Tryz.func109 (show Tryz.f109.body = some _ from rfl) rfl rfl rfl (by show 1 ≤ 8; decide)]
  have hw : IntKind.i64.wrap (97 + n) = 97 + n := wrap_id ⟨by omega, by omega⟩
  simp (decide := true) only [rep1, hw, Tryz.f109, rid, ↓sBp, sBq, List.all_cons, List.all_nil, List.map_cons, List.map_nil, D.shape, Sh.sub, Sh.size, List.getElem?_cons_zero, List.getElem?_cons_succ, Option.bind_some, Option.bind_none, Option.getD_some, Option.getD_none, V.keysIn, V.kill, V.has, decide_eq_true_eq, beq_iff_eq, bne_iff_ne, ne_eq, Bool.not_eq_true', Bool.and_true, Bool.and_self, Bool.true_and, if_true, if_false, reduceIte, Bool.false_eq_true, decide_true, decide_false, beq_self_eq_true, Bool.not_true, Bool.not_false, true_and, and_true, and_self, List.append_assoc, List.nil_append, List.cons_append, Int.toNat_natCast, ck, Int.cast_ofNat_Int, Int.reduceToNat, bne_self_eq_false, Bool.or_false, Bool.false_or, Bool.false_and, Bool.and_false, Bool.or_true, Bool.true_or]
  rfl
theorem rtext_ev (k : Nat) (s : Int) : evF Tryz.prog env xt (k+4) 61 [.d (.s (.int .i64 (s)))] = some (.d (.s (.string (textF s)))) := by
  rw [evF_eq Tryz.func61 (show Tryz.f61.body = some _ from rfl) rfl rfl rfl (by show 1 ≤ 21; decide)]
  have hle := ints_length (listTo s 16)
  have hlen := listTo_len s 16
  simp (decide := true) only [rlist_ev, Tryz.f61, rid, kl61_3, ↓sBp, sBq, List.all_cons, List.all_nil, List.map_cons, List.map_nil, D.shape, Sh.sub, Sh.size, List.getElem?_cons_zero, List.getElem?_cons_succ, Option.bind_some, Option.bind_none, Option.getD_some, Option.getD_none, V.keysIn, V.kill, V.has, decide_eq_true_eq, beq_iff_eq, bne_iff_ne, ne_eq, Bool.not_eq_true', Bool.and_true, Bool.and_self, Bool.true_and, if_true, if_false, reduceIte, Bool.false_eq_true, decide_true, decide_false, beq_self_eq_true, Bool.not_true, Bool.not_false, true_and, and_true, and_self, List.append_assoc, List.nil_append, List.cons_append, Int.toNat_natCast, ck, Int.cast_ofNat_Int, Int.reduceToNat, bne_self_eq_false, Bool.or_false, Bool.false_or, Bool.false_and, Bool.and_false, Bool.or_true, Bool.true_or]
  rw [iter_run (S := fun k => ⟨tab .junk [(3, .d (.s (.string (bytesOf (lets ((listTo s 16).take k)))))), (7, .sl (.tg 7) cI (ints (listTo s 16))), (8, .d (.s (.int .i64 ((listTo s 16).length)))), (9, .d (.s (.int .i64 (k))))], tab none [(7, some .row)]⟩) (n := (listTo s 16).length) (h0 := ?h0) (hn := ?hn) (step := ?step)]
  case h0 => rw [hle]; rfl
  case hn => exact lt_loopFuel (by omega)
  case step =>
    intro k hk
    have hk1 : (k : Int) < ((listTo s 16).length : Int) := by omega
    have hk0 : (0 : Int) ≤ k := by omega
    have hkw := wrap_succ k (by omega)
    obtain ⟨m, hm, hh, he⟩ := listTo_get s hk
    have hi := ints_get he
    have ht : (listTo s 16).take (k + 1) = (listTo s 16).take k ++ [(m : Int)] := by
      rw [List.take_succ_eq_append_getElem hk]; rw [List.getElem?_eq_getElem hk] at he; rw [Option.some.inj he]
    have hl2 : ((listTo s 16).take k).length ≤ 16 := Nat.le_trans (List.length_take_le' _ _) hlen
    have hlet := fun K => letter_ev K (m : Int) (by omega) (by omega)
    have hadd := evBin_addS env 9 (bytesOf (lets ((listTo s 16).take k))) (bytesOf (lets [(m : Int)])) (by rw [bytesOf_size, bytesOf_size, lets_length, lets_length]; simp only [List.length_singleton]; omega)
    have hb : bytesOf (lets ((listTo s 16).take k)) ++ bytesOf (lets [(m : Int)]) = bytesOf (lets ((listTo s 16).take k ++ [(m : Int)])) := by
      rw [← bytesOf_append]; simp [lets]
    simp (decide := true) only [hk1, hk0, hkw, hi, hlet, hadd, hb, ht, Tryz.f61, rid, kl61_3, ↓sBp, sBq, List.all_cons, List.all_nil, List.map_cons, List.map_nil, D.shape, Sh.sub, Sh.size, List.getElem?_cons_zero, List.getElem?_cons_succ, Option.bind_some, Option.bind_none, Option.getD_some, Option.getD_none, V.keysIn, V.kill, V.has, decide_eq_true_eq, beq_iff_eq, bne_iff_ne, ne_eq, Bool.not_eq_true', Bool.and_true, Bool.and_self, Bool.true_and, if_true, if_false, reduceIte, Bool.false_eq_true, decide_true, decide_false, beq_self_eq_true, Bool.not_true, Bool.not_false, true_and, and_true, and_self, List.append_assoc, List.nil_append, List.cons_append, Int.toNat_natCast, ck, Int.cast_ofNat_Int, Int.reduceToNat, bne_self_eq_false, Bool.or_false, Bool.false_or, Bool.false_and, Bool.and_false, Bool.or_true, Bool.true_or]
  by_cases h : listTo s 16 = []
  · have e : textF s = ⟨#[46]⟩ := if_pos h
    have z : (bytesOf (lets (listTo s 16)) == (⟨#[]⟩ : ByteArray)) = true := by rw [h]; rfl
    simp (decide := true) only [Int.lt_irrefl, List.take_length, z, e, Tryz.f61, rid, kl61_3, ↓sBp, sBq, List.all_cons, List.all_nil, List.map_cons, List.map_nil, D.shape, Sh.sub, Sh.size, List.getElem?_cons_zero, List.getElem?_cons_succ, Option.bind_some, Option.bind_none, Option.getD_some, Option.getD_none, V.keysIn, V.kill, V.has, decide_eq_true_eq, beq_iff_eq, bne_iff_ne, ne_eq, Bool.not_eq_true', Bool.and_true, Bool.and_self, Bool.true_and, if_true, if_false, reduceIte, Bool.false_eq_true, decide_true, decide_false, beq_self_eq_true, Bool.not_true, Bool.not_false, true_and, and_true, and_self, List.append_assoc, List.nil_append, List.cons_append, Int.toNat_natCast, ck, Int.cast_ofNat_Int, Int.reduceToNat, bne_self_eq_false, Bool.or_false, Bool.false_or, Bool.false_and, Bool.and_false, Bool.or_true, Bool.true_or]
  · have e : textF s = bytesOf (lets (listTo s 16)) := if_neg h
    have z : (bytesOf (lets (listTo s 16)) == (⟨#[]⟩ : ByteArray)) = false := by
      refine Bool.eq_false_iff.2 fun q => h ?_
      have q := eq_of_beqB q
      have := congrArg ByteArray.size q
      rw [bytesOf_size, lets_length] at this
      exact List.eq_nil_of_length_eq_zero this
    simp (decide := true) only [Int.lt_irrefl, List.take_length, z, e, Tryz.f61, rid, kl61_3, ↓sBp, sBq, List.all_cons, List.all_nil, List.map_cons, List.map_nil, D.shape, Sh.sub, Sh.size, List.getElem?_cons_zero, List.getElem?_cons_succ, Option.bind_some, Option.bind_none, Option.getD_some, Option.getD_none, V.keysIn, V.kill, V.has, decide_eq_true_eq, beq_iff_eq, bne_iff_ne, ne_eq, Bool.not_eq_true', Bool.and_true, Bool.and_self, Bool.true_and, if_true, if_false, reduceIte, Bool.false_eq_true, decide_true, decide_false, beq_self_eq_true, Bool.not_true, Bool.not_false, true_and, and_true, and_self, List.append_assoc, List.nil_append, List.cons_append, Int.toNat_natCast, ck, Int.cast_ofNat_Int, Int.reduceToNat, bne_self_eq_false, Bool.or_false, Bool.false_or, Bool.false_and, Bool.and_false, Bool.or_true, Bool.true_or]
def pieceT (w : Nat → Int) (j : Int) : ByteArray := textF (withN 0 j) ++ (⟨#[58]⟩ : ByteArray) ++ textF (w j.toNat) ++ (⟨#[32]⟩ : ByteArray)
def strTo (w : Nat → Int) (L : List Int) (k : Nat) : ByteArray := upto (fun i s => s ++ pieceT w (L.getD i 0)) ⟨#[]⟩ k
theorem strTo_succ (w : Nat → Int) (L : List Int) (k : Nat) {n : Int} (h : L.getD k 0 = n) : strTo w L (k + 1) = strTo w L k ++ (textF (withN 0 n) ++ (⟨#[58]⟩ : ByteArray) ++ textF (w n.toNat) ++ (⟨#[32]⟩ : ByteArray)) := by subst h; rfl
theorem strTo_size (w : Nat → Int) (L : List Int) : ∀ k, (strTo w L k).size ≤ 34 * k
  | 0 => Nat.le_refl _
  | k + 1 => by
    have ih := strTo_size w L k
    show (strTo w L k ++ pieceT w (L.getD k 0)).size ≤ _
    have h1 := textF_size (withN 0 (L.getD k 0))
    have h2 := textF_size (w (L.getD k 0).toNat)
    unfold pieceT
    simp only [ByteArray.size_append]
    have e1 : (⟨#[58]⟩ : ByteArray).size = 1 := rfl
    have e2 : (⟨#[32]⟩ : ByteArray).size = 1 := rfl
    omega
theorem textI_ev (k : Nat) {s : Int} (hs : inI s) : evF Tryz.prog env xt (k+4) 56 [.d (.s (.int .i64 (s)))] = some (.d (.s (.string (textF s)))) := text_ev k hs
theorem rtextI_ev (k : Nat) {s : Int} (hs : inI s) : evF Tryz.prog env xt (k+4) 61 [.d (.s (.int .i64 (s)))] = some (.d (.s (.string (textF s)))) := rtext_ev k s
theorem ptext_ev (d : Nat) (a : Int) (w : Nat → Int) (hw : ∀ i, inI (w i)) : evF Tryz.prog env xt (d+6) 55 [.d (phD a w)] = some (.d (.s (.string (strTo w (listTo a 16) (listTo a 16).length)))) := by
  rw [evF_eq Tryz.func55 (show Tryz.f55.body = some _ from rfl) rfl rfl rfl (by show 1 ≤ 29; decide)]
  simp (decide := true) only [list_ev, Tryz.f55, rid, kl55_3, dp55_5, ↓sBp, sBq, List.all_cons, List.all_nil, List.map_cons, List.map_nil, D.shape, Sh.sub, Sh.size, List.getElem?_cons_zero, List.getElem?_cons_succ, Option.bind_some, Option.bind_none, Option.getD_some, Option.getD_none, V.keysIn, V.kill, V.has, decide_eq_true_eq, beq_iff_eq, bne_iff_ne, ne_eq, Bool.not_eq_true', Bool.and_true, Bool.and_self, Bool.true_and, if_true, if_false, reduceIte, Bool.false_eq_true, decide_true, decide_false, beq_self_eq_true, Bool.not_true, Bool.not_false, true_and, and_true, and_self, List.append_assoc, List.nil_append, List.cons_append, Int.toNat_natCast, ck, Int.cast_ofNat_Int, Int.reduceToNat, bne_self_eq_false, Bool.or_false, Bool.false_or, Bool.false_and, Bool.and_false, Bool.or_true, Bool.true_or]
  have hlen := listTo_len a 16
  have hle := ints_length (listTo a 16)
  rw [iter_run (S := fun k => ⟨tab .junk [(1, .ptr 1 (shP) [] (shP)), (3, .d (.s (.string (strTo w (listTo a 16) k)))), (8, .sl (.tg 8) cI (ints (listTo a 16))), (9, .d (.s (.int .i64 ((listTo a 16).length)))), (10, .d (.s (.int .i64 (k))))], tab none [(1, some (.box (phD a w))), (8, some .row)]⟩) (n := (listTo a 16).length) (h0 := ?h0) (hn := ?hn) (step := ?step)]
  case h0 => rw [hle]; rfl
  case hn => exact lt_loopFuel (by omega)
  case step =>
    intro k hk
    have hk1 : (k : Int) < ((listTo a 16).length : Int) := by omega
    have hk0 : (0 : Int) ≤ k := by omega
    have hkw := wrap_succ k (by omega)
    obtain ⟨m, hm, hh, he⟩ := listTo_get a hk
    have hi := ints_get he
    have hg : (listTo a 16).getD k 0 = (m : Int) := by simp [List.getD, he]
    have hm1 : (m : Int) < 16 := by omega
    have hm0 : (0 : Int) ≤ m := by omega
    have hs := strTo_succ w (listTo a 16) k hg
    rw [Int.toNat_natCast] at hs
    have z1 := textF_size (withN 0 (m : Int))
    have z2 := textF_size (w m)
    have z3 := strTo_size w (listTo a 16) k
    have e1 : (⟨#[58]⟩ : ByteArray).size = 1 := rfl
    have e2 : (⟨#[32]⟩ : ByteArray).size = 1 := rfl
    have i1 := inI_withN inI_zero (m : Int)
    have a1 := fun t => evBin_addS env t (textF (withN 0 (m : Int))) ⟨#[58]⟩ (by omega)
    have a2 := fun t => evBin_addS env t (textF (withN 0 (m : Int)) ++ (⟨#[58]⟩ : ByteArray)) (textF (w m)) (by simp only [ByteArray.size_append]; omega)
    have a3 := fun t => evBin_addS env t (textF (withN 0 (m : Int)) ++ (⟨#[58]⟩ : ByteArray) ++ textF (w m)) ⟨#[32]⟩ (by simp only [ByteArray.size_append]; omega)
    have a4 := fun t => evBin_addS env t (strTo w (listTo a 16) k) (textF (withN 0 (m : Int)) ++ (⟨#[58]⟩ : ByteArray) ++ textF (w m) ++ (⟨#[32]⟩ : ByteArray)) (by simp only [ByteArray.size_append]; omega)
    have t1 := fun K => textI_ev K i1
    have t2 := fun K => textI_ev K (hw m)
    simp (decide := true) only [hk1, hk0, hkw, hi, hm1, hm0, with_ev, t1, t2, a1, a2, a3, a4, hs, Tryz.f55, rid, kl55_3, dp55_5, ↓sBp, sBq, List.all_cons, List.all_nil, List.map_cons, List.map_nil, D.shape, Sh.sub, Sh.size, List.getElem?_cons_zero, List.getElem?_cons_succ, Option.bind_some, Option.bind_none, Option.getD_some, Option.getD_none, V.keysIn, V.kill, V.has, decide_eq_true_eq, beq_iff_eq, bne_iff_ne, ne_eq, Bool.not_eq_true', Bool.and_true, Bool.and_self, Bool.true_and, if_true, if_false, reduceIte, Bool.false_eq_true, decide_true, decide_false, beq_self_eq_true, Bool.not_true, Bool.not_false, true_and, and_true, and_self, List.append_assoc, List.nil_append, List.cons_append, Int.toNat_natCast, ck, Int.cast_ofNat_Int, Int.reduceToNat, bne_self_eq_false, Bool.or_false, Bool.false_or, Bool.false_and, Bool.and_false, Bool.or_true, Bool.true_or]
  simp (decide := true) only [Int.lt_irrefl, Tryz.f55, rid, kl55_3, dp55_5, ↓sBp, sBq, List.all_cons, List.all_nil, List.map_cons, List.map_nil, D.shape, Sh.sub, Sh.size, List.getElem?_cons_zero, List.getElem?_cons_succ, Option.bind_some, Option.bind_none, Option.getD_some, Option.getD_none, V.keysIn, V.kill, V.has, decide_eq_true_eq, beq_iff_eq, bne_iff_ne, ne_eq, Bool.not_eq_true', Bool.and_true, Bool.and_self, Bool.true_and, if_true, if_false, reduceIte, Bool.false_eq_true, decide_true, decide_false, beq_self_eq_true, Bool.not_true, Bool.not_false, true_and, and_true, and_self, List.append_assoc, List.nil_append, List.cons_append, Int.toNat_natCast, ck, Int.cast_ofNat_Int, Int.reduceToNat, bne_self_eq_false, Bool.or_false, Bool.false_or, Bool.false_and, Bool.and_false, Bool.or_true, Bool.true_or]
theorem rptext_ev (d : Nat) (a : Int) (w : Nat → Int) (hw : ∀ i, inI (w i)) : evF Tryz.prog env xt (d+6) 60 [.d (phD a w)] = some (.d (.s (.string (strTo w (listTo a 16) (listTo a 16).length)))) := by
  rw [evF_eq Tryz.func60 (show Tryz.f60.body = some _ from rfl) rfl rfl rfl (by show 1 ≤ 29; decide)]
  simp (decide := true) only [rlist_ev, Tryz.f60, rid, kl60_3, dp60_5, ↓sBp, sBq, List.all_cons, List.all_nil, List.map_cons, List.map_nil, D.shape, Sh.sub, Sh.size, List.getElem?_cons_zero, List.getElem?_cons_succ, Option.bind_some, Option.bind_none, Option.getD_some, Option.getD_none, V.keysIn, V.kill, V.has, decide_eq_true_eq, beq_iff_eq, bne_iff_ne, ne_eq, Bool.not_eq_true', Bool.and_true, Bool.and_self, Bool.true_and, if_true, if_false, reduceIte, Bool.false_eq_true, decide_true, decide_false, beq_self_eq_true, Bool.not_true, Bool.not_false, true_and, and_true, and_self, List.append_assoc, List.nil_append, List.cons_append, Int.toNat_natCast, ck, Int.cast_ofNat_Int, Int.reduceToNat, bne_self_eq_false, Bool.or_false, Bool.false_or, Bool.false_and, Bool.and_false, Bool.or_true, Bool.true_or]
  have hlen := listTo_len a 16
  have hle := ints_length (listTo a 16)
  rw [iter_run (S := fun k => ⟨tab .junk [(1, .ptr 1 (shP) [] (shP)), (3, .d (.s (.string (strTo w (listTo a 16) k)))), (8, .sl (.tg 8) cI (ints (listTo a 16))), (9, .d (.s (.int .i64 ((listTo a 16).length)))), (10, .d (.s (.int .i64 (k))))], tab none [(1, some (.box (phD a w))), (8, some .row)]⟩) (n := (listTo a 16).length) (h0 := ?h0) (hn := ?hn) (step := ?step)]
  case h0 => rw [hle]; rfl
  case hn => exact lt_loopFuel (by omega)
  case step =>
    intro k hk
    have hk1 : (k : Int) < ((listTo a 16).length : Int) := by omega
    have hk0 : (0 : Int) ≤ k := by omega
    have hkw := wrap_succ k (by omega)
    obtain ⟨m, hm, hh, he⟩ := listTo_get a hk
    have hi := ints_get he
    have hg : (listTo a 16).getD k 0 = (m : Int) := by simp [List.getD, he]
    have hm1 : (m : Int) < 16 := by omega
    have hm0 : (0 : Int) ≤ m := by omega
    have hs := strTo_succ w (listTo a 16) k hg
    rw [Int.toNat_natCast] at hs
    have z1 := textF_size (withN 0 (m : Int))
    have z2 := textF_size (w m)
    have z3 := strTo_size w (listTo a 16) k
    have e1 : (⟨#[58]⟩ : ByteArray).size = 1 := rfl
    have e2 : (⟨#[32]⟩ : ByteArray).size = 1 := rfl
    have i1 := inI_withN inI_zero (m : Int)
    have a1 := fun t => evBin_addS env t (textF (withN 0 (m : Int))) ⟨#[58]⟩ (by omega)
    have a2 := fun t => evBin_addS env t (textF (withN 0 (m : Int)) ++ (⟨#[58]⟩ : ByteArray)) (textF (w m)) (by simp only [ByteArray.size_append]; omega)
    have a3 := fun t => evBin_addS env t (textF (withN 0 (m : Int)) ++ (⟨#[58]⟩ : ByteArray) ++ textF (w m)) ⟨#[32]⟩ (by simp only [ByteArray.size_append]; omega)
    have a4 := fun t => evBin_addS env t (strTo w (listTo a 16) k) (textF (withN 0 (m : Int)) ++ (⟨#[58]⟩ : ByteArray) ++ textF (w m) ++ (⟨#[32]⟩ : ByteArray)) (by simp only [ByteArray.size_append]; omega)
    have t1 := fun K => rtextI_ev K i1
    have t2 := fun K => rtextI_ev K (hw m)
    simp (decide := true) only [hk1, hk0, hkw, hi, hm1, hm0, rwith_ev, t1, t2, a1, a2, a3, a4, hs, Tryz.f60, rid, kl60_3, dp60_5, ↓sBp, sBq, List.all_cons, List.all_nil, List.map_cons, List.map_nil, D.shape, Sh.sub, Sh.size, List.getElem?_cons_zero, List.getElem?_cons_succ, Option.bind_some, Option.bind_none, Option.getD_some, Option.getD_none, V.keysIn, V.kill, V.has, decide_eq_true_eq, beq_iff_eq, bne_iff_ne, ne_eq, Bool.not_eq_true', Bool.and_true, Bool.and_self, Bool.true_and, if_true, if_false, reduceIte, Bool.false_eq_true, decide_true, decide_false, beq_self_eq_true, Bool.not_true, Bool.not_false, true_and, and_true, and_self, List.append_assoc, List.nil_append, List.cons_append, Int.toNat_natCast, ck, Int.cast_ofNat_Int, Int.reduceToNat, bne_self_eq_false, Bool.or_false, Bool.false_or, Bool.false_and, Bool.and_false, Bool.or_true, Bool.true_or]
  simp (decide := true) only [Int.lt_irrefl, Tryz.f60, rid, kl60_3, dp60_5, ↓sBp, sBq, List.all_cons, List.all_nil, List.map_cons, List.map_nil, D.shape, Sh.sub, Sh.size, List.getElem?_cons_zero, List.getElem?_cons_succ, Option.bind_some, Option.bind_none, Option.getD_some, Option.getD_none, V.keysIn, V.kill, V.has, decide_eq_true_eq, beq_iff_eq, bne_iff_ne, ne_eq, Bool.not_eq_true', Bool.and_true, Bool.and_self, Bool.true_and, if_true, if_false, reduceIte, Bool.false_eq_true, decide_true, decide_false, beq_self_eq_true, Bool.not_true, Bool.not_false, true_and, and_true, and_self, List.append_assoc, List.nil_append, List.cons_append, Int.toNat_natCast, ck, Int.cast_ofNat_Int, Int.reduceToNat, bne_self_eq_false, Bool.or_false, Bool.false_or, Bool.false_and, Bool.and_false, Bool.or_true, Bool.true_or]
/- Numbers as texts. -/
def decB (n : Int) : ByteArray := ⟨(Lib.decDigits n.toNat).toArray⟩
theorem decB_size {n : Int} (h : n < 4294967296) : (decB n).size ≤ 10 := by
  have e : ∀ m k : Nat, k < 10 ^ (m + 1) → Lib.nDigits k ≤ m + 1 := by
    intro m
    induction m with
    | zero => intro k hk; rw [Lib.nDigits_small (by omega)]; omega
    | succ m ih =>
      intro k hk
      by_cases h : k < 10
      · rw [Lib.nDigits_small h]; omega
      · rw [Lib.nDigits_big h]
        have := ih (k / 10) (by rw [Nat.pow_succ] at hk; omega)
        omega
  have := e 9 n.toNat (by omega)
  have e2 : (decB n).size = Lib.nDigits n.toNat := by
    rw [← Lib.decDigits_length]
    unfold decB
    simp [ByteArray.size]
  omega
theorem decB_one {n : Int} (h0 : 0 ≤ n) (h : n < 10) : decB n = bytesOf [.s (.int .u8 (IntKind.u8.wrap (IntKind.u32.wrap (48 + n))))] := by
  obtain ⟨m, rfl⟩ : ∃ m : Nat, n = m := ⟨n.toNat, by omega⟩
  unfold decB
  rw [Int.toNat_natCast, Lib.decDigits_one (by omega)]
  have e1 : IntKind.u32.wrap (48 + (m : Int)) = 48 + m := IntWalk.u32_in _ (by omega)
  have e2 : IntKind.u8.wrap (48 + (m : Int)) = 48 + m := IntWalk.u8_in _ (by omega)
  rw [e1, e2]
  show _ = (⟨[UInt8.ofNat (48 + (m : Int)).toNat].toArray⟩ : ByteArray)
  rw [show (48 + (m : Int)).toNat = 48 + m by omega]
theorem decB_more {n : Int} (h : ¬ n < 10) (h2 : n < 4294967296) : decB n = decB (IntKind.u32.wrap (n.tdiv 10)) ++ bytesOf [.s (.int .u8 (IntKind.u8.wrap (IntKind.u32.wrap (48 + n.tmod 10))))] := by
  obtain ⟨m, rfl⟩ : ∃ m : Nat, n = m := ⟨n.toNat, by omega⟩
  have d1 : ((m : Int)).tdiv 10 = ((m / 10 : Nat) : Int) := by rw [Int.tdiv_eq_ediv_of_nonneg (by omega)]; omega
  have d2 : ((m : Int)).tmod 10 = ((m % 10 : Nat) : Int) := by rw [Int.tmod_eq_emod_of_nonneg (by omega)]; omega
  have w1 : IntKind.u32.wrap ((m / 10 : Nat) : Int) = ((m / 10 : Nat) : Int) := IntWalk.u32_in _ (by omega)
  have w2 : IntKind.u32.wrap ((m % 10 : Nat) : Int) = ((m % 10 : Nat) : Int) := IntWalk.u32_in _ (by omega)
  rw [d1, d2, w1, ← decB_one (by omega) (by omega)]
  unfold decB
  rw [Int.toNat_natCast, Int.toNat_natCast, Int.toNat_natCast, Lib.decDigits_one (i := m % 10) (by omega)]
  conv => lhs; rw [Lib.decDigits, dif_neg (by omega)]
  apply ByteArray.ext
  simp
theorem dig23_ev (K : Nat) : ∀ (m : Nat) (n : Int), 0 ≤ n → n < 10 ^ (m + 1) → n < 4294967296 → evF Tryz.prog env xt (K+m+1) 105 [.d (.s (.int .u32 (n)))] = some (.d (.s (.string (decB n))))
  | m, n, h0, h1, h2 => by
    by_cases h : n < 10
    · have e := decB_one h0 h
      rw [evF_eq Tryz.func105 (show Tryz.f105.body = some _ from rfl) rfl rfl rfl (by show 1 ≤ 20; decide)]
      simp (decide := true) only [h, rep1, e, Tryz.f105, rid, dp105_3, ↓sBp, sBq, List.all_cons, List.all_nil, List.map_cons, List.map_nil, D.shape, Sh.sub, Sh.size, List.getElem?_cons_zero, List.getElem?_cons_succ, Option.bind_some, Option.bind_none, Option.getD_some, Option.getD_none, V.keysIn, V.kill, V.has, decide_eq_true_eq, beq_iff_eq, bne_iff_ne, ne_eq, Bool.not_eq_true', Bool.and_true, Bool.and_self, Bool.true_and, if_true, if_false, reduceIte, Bool.false_eq_true, decide_true, decide_false, beq_self_eq_true, Bool.not_true, Bool.not_false, true_and, and_true, and_self, List.append_assoc, List.nil_append, List.cons_append, Int.toNat_natCast, ck, Int.cast_ofNat_Int, Int.reduceToNat, bne_self_eq_false, Bool.or_false, Bool.false_or, Bool.false_and, Bool.and_false, Bool.or_true, Bool.true_or]
    · cases m with
      | zero => omega
      | succ m =>
        have e := decB_more h h2
        have d1 : n.tdiv 10 = n / 10 := Int.tdiv_eq_ediv_of_nonneg h0
        have w1 : IntKind.u32.wrap (n.tdiv 10) = n / 10 := by rw [d1]; exact IntWalk.u32_in _ (by omega)
        have h1' : n / 10 < 10 ^ (m + 1) := by
          rw [Int.pow_succ] at h1
          omega
        have ih : evF Tryz.prog env xt (K+(m+1)) 105 [.d (.s (.int .u32 (n / 10)))] = some (.d (.s (.string (decB (n / 10))))) := dig23_ev K m (n / 10) (by omega) h1' (by omega)
        rw [← w1] at ih
        have z1 := decB_size (n := IntKind.u32.wrap (n.tdiv 10)) (by rw [w1]; omega)
        have z2 := bytesOf_size [.s (.int .u8 (IntKind.u8.wrap (IntKind.u32.wrap (48 + n.tmod 10))))]
        have a1 := fun t => evBin_addS env t (decB (IntKind.u32.wrap (n.tdiv 10))) (bytesOf [.s (.int .u8 (IntKind.u8.wrap (IntKind.u32.wrap (48 + n.tmod 10))))]) (by rw [z2]; simp only [List.length_singleton]; omega)
        have c10 : (10 : Int) ≠ 0 := by decide
        rw [evF_eq Tryz.func105 (show Tryz.f105.body = some _ from rfl) rfl rfl rfl (by show 1 ≤ 20; decide)]
        simp (decide := true) only [h, rep1, c10, ih, a1, e, Tryz.f105, rid, dp105_3, ↓sBp, sBq, List.all_cons, List.all_nil, List.map_cons, List.map_nil, D.shape, Sh.sub, Sh.size, List.getElem?_cons_zero, List.getElem?_cons_succ, Option.bind_some, Option.bind_none, Option.getD_some, Option.getD_none, V.keysIn, V.kill, V.has, decide_eq_true_eq, beq_iff_eq, bne_iff_ne, ne_eq, Bool.not_eq_true', Bool.and_true, Bool.and_self, Bool.true_and, if_true, if_false, reduceIte, Bool.false_eq_true, decide_true, decide_false, beq_self_eq_true, Bool.not_true, Bool.not_false, true_and, and_true, and_self, List.append_assoc, List.nil_append, List.cons_append, Int.toNat_natCast, ck, Int.cast_ofNat_Int, Int.reduceToNat, bne_self_eq_false, Bool.or_false, Bool.false_or, Bool.false_and, Bool.and_false, Bool.or_true, Bool.true_or]
theorem dig14_ev (K : Nat) : ∀ (m : Nat) (n : Int), 0 ≤ n → n < 10 ^ (m + 1) → n < 4294967296 → evF Tryz.prog env xt (K+m+1) 107 [.d (.s (.int .u32 (n)))] = some (.d (.s (.string (decB n))))
  | m, n, h0, h1, h2 => by
    by_cases h : n < 10
    · have e := decB_one h0 h
      rw [evF_eq Tryz.func107 (show Tryz.f107.body = some _ from rfl) rfl rfl rfl (by show 1 ≤ 20; decide)]
      simp (decide := true) only [h, rep1, e, Tryz.f107, rid, dp107_3, ↓sBp, sBq, List.all_cons, List.all_nil, List.map_cons, List.map_nil, D.shape, Sh.sub, Sh.size, List.getElem?_cons_zero, List.getElem?_cons_succ, Option.bind_some, Option.bind_none, Option.getD_some, Option.getD_none, V.keysIn, V.kill, V.has, decide_eq_true_eq, beq_iff_eq, bne_iff_ne, ne_eq, Bool.not_eq_true', Bool.and_true, Bool.and_self, Bool.true_and, if_true, if_false, reduceIte, Bool.false_eq_true, decide_true, decide_false, beq_self_eq_true, Bool.not_true, Bool.not_false, true_and, and_true, and_self, List.append_assoc, List.nil_append, List.cons_append, Int.toNat_natCast, ck, Int.cast_ofNat_Int, Int.reduceToNat, bne_self_eq_false, Bool.or_false, Bool.false_or, Bool.false_and, Bool.and_false, Bool.or_true, Bool.true_or]
    · cases m with
      | zero => omega
      | succ m =>
        have e := decB_more h h2
        have d1 : n.tdiv 10 = n / 10 := Int.tdiv_eq_ediv_of_nonneg h0
        have w1 : IntKind.u32.wrap (n.tdiv 10) = n / 10 := by rw [d1]; exact IntWalk.u32_in _ (by omega)
        have h1' : n / 10 < 10 ^ (m + 1) := by
          rw [Int.pow_succ] at h1
          omega
        have ih : evF Tryz.prog env xt (K+(m+1)) 107 [.d (.s (.int .u32 (n / 10)))] = some (.d (.s (.string (decB (n / 10))))) := dig14_ev K m (n / 10) (by omega) h1' (by omega)
        rw [← w1] at ih
        have z1 := decB_size (n := IntKind.u32.wrap (n.tdiv 10)) (by rw [w1]; omega)
        have z2 := bytesOf_size [.s (.int .u8 (IntKind.u8.wrap (IntKind.u32.wrap (48 + n.tmod 10))))]
        have a1 := fun t => evBin_addS env t (decB (IntKind.u32.wrap (n.tdiv 10))) (bytesOf [.s (.int .u8 (IntKind.u8.wrap (IntKind.u32.wrap (48 + n.tmod 10))))]) (by rw [z2]; simp only [List.length_singleton]; omega)
        have c10 : (10 : Int) ≠ 0 := by decide
        rw [evF_eq Tryz.func107 (show Tryz.f107.body = some _ from rfl) rfl rfl rfl (by show 1 ≤ 20; decide)]
        simp (decide := true) only [h, rep1, c10, ih, a1, e, Tryz.f107, rid, dp107_3, ↓sBp, sBq, List.all_cons, List.all_nil, List.map_cons, List.map_nil, D.shape, Sh.sub, Sh.size, List.getElem?_cons_zero, List.getElem?_cons_succ, Option.bind_some, Option.bind_none, Option.getD_some, Option.getD_none, V.keysIn, V.kill, V.has, decide_eq_true_eq, beq_iff_eq, bne_iff_ne, ne_eq, Bool.not_eq_true', Bool.and_true, Bool.and_self, Bool.true_and, if_true, if_false, reduceIte, Bool.false_eq_true, decide_true, decide_false, beq_self_eq_true, Bool.not_true, Bool.not_false, true_and, and_true, and_self, List.append_assoc, List.nil_append, List.cons_append, Int.toNat_natCast, ck, Int.cast_ofNat_Int, Int.reduceToNat, bne_self_eq_false, Bool.or_false, Bool.false_or, Bool.false_and, Bool.and_false, Bool.or_true, Bool.true_or]
end Go.Proofs.YtjceimcepogkaaaGreatDoor.Ev
