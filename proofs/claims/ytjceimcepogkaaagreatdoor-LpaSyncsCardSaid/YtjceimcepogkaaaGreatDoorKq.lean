/- What the functions of costs compute: links. -/
import Derived.Test.YtjceimcepogkaaaGreatDoorTr
import Derived.Test.YtjceimcepogkaaaGreatDoorKd
import Derived.Shelf.Strings.Builder1
import Derived.Lib.AppendStr
import Derived.OwnWalk
import Derived.Test.YtjceimcepogkaaaGreatDoorEvH
namespace Go.Proofs.YtjceimcepogkaaaGreatDoor.Ev
open Go
attribute [local congr] ob_congr sq_congr cd_congr ite_congr1 iter_congr it1_congr jumps_congr
set_option maxRecDepth 100000
set_option linter.unusedSimpArgs false
set_option linter.unusedVariables false

abbrev shC : Sh := .cons cI (.cons (.arr 16 cU) .nil)
abbrev arrU (l : Nat → Int) : D := .arr 16 cU fun i => dU (l i)
abbrev costsD (up : Int) (c : Nat → Int) : D := .cons (dI up) (.cons (arrU c) .nil)
theorem has_right {s n : Int} (h : has s n = true) : right n = true := by
  unfold has at h
  rw [Bool.and_eq_true] at h
  exact h.1
def ofF (up : Int) (c : Nat → Int) (n : Int) : Int := if has up n = true then c n.toNat else 4294967295
theorem of_ev (k : Nat) (up : Int) (c : Nat → Int) (n : Int) : evF Tryz.prog env xt (k+3) 157 [.d (costsD up c), .d (.s (.int .i64 (n)))] = some (.d (.s (.int .u32 (ofF up c n)))) := by
  rw [evF_eq Tryz.func157 (show Tryz.f157.body = some _ from rfl) rfl rfl rfl (by show 2 ≤ 14; decide)]
  by_cases h : has up n = true
  · have h2 := right_nn (has_right h)
    simp (decide := true) only [h, h2, has_ev, ofF, Tryz.f157, rid, ↓sBp, sBq, List.all_cons, List.all_nil, List.map_cons, List.map_nil, D.shape, Sh.sub, Sh.size, List.getElem?_cons_zero, List.getElem?_cons_succ, Option.bind_some, Option.bind_none, Option.getD_some, Option.getD_none, V.keysIn, V.kill, V.has, decide_eq_true_eq, beq_iff_eq, bne_iff_ne, ne_eq, Bool.not_eq_true', Bool.and_true, Bool.and_self, Bool.true_and, if_true, if_false, reduceIte, Bool.false_eq_true, decide_true, decide_false, beq_self_eq_true, Bool.not_true, Bool.not_false, true_and, and_true, and_self, List.append_assoc, List.nil_append, List.cons_append, Int.toNat_natCast, ck, Int.cast_ofNat_Int, Int.reduceToNat, bne_self_eq_false, Bool.or_false, Bool.false_or, Bool.false_and, Bool.and_false, Bool.or_true, Bool.true_or]
  · simp (decide := true) only [h, has_ev, ofF, Tryz.f157, rid, ↓sBp, sBq, List.all_cons, List.all_nil, List.map_cons, List.map_nil, D.shape, Sh.sub, Sh.size, List.getElem?_cons_zero, List.getElem?_cons_succ, Option.bind_some, Option.bind_none, Option.getD_some, Option.getD_none, V.keysIn, V.kill, V.has, decide_eq_true_eq, beq_iff_eq, bne_iff_ne, ne_eq, Bool.not_eq_true', Bool.and_true, Bool.and_self, Bool.true_and, if_true, if_false, reduceIte, Bool.false_eq_true, decide_true, decide_false, beq_self_eq_true, Bool.not_true, Bool.not_false, true_and, and_true, and_self, List.append_assoc, List.nil_append, List.cons_append, Int.toNat_natCast, ck, Int.cast_ofNat_Int, Int.reduceToNat, bne_self_eq_false, Bool.or_false, Bool.false_or, Bool.false_and, Bool.and_false, Bool.or_true, Bool.true_or]
theorem rof_ev (k : Nat) (up : Int) (c : Nat → Int) (n : Int) : evF Tryz.prog env xt (k+3) 108 [.d (costsD up c), .d (.s (.int .i64 (n)))] = some (.d (.s (.int .u32 (ofF up c n)))) := by
  rw [evF_eq Tryz.func108 (show Tryz.f108.body = some _ from rfl) rfl rfl rfl (by show 2 ≤ 14; decide)]
  by_cases h : has up n = true
  · have h2 := right_nn (has_right h)
    simp (decide := true) only [h, h2, rhas_ev, ofF, Tryz.f108, rid, ↓sBp, sBq, List.all_cons, List.all_nil, List.map_cons, List.map_nil, D.shape, Sh.sub, Sh.size, List.getElem?_cons_zero, List.getElem?_cons_succ, Option.bind_some, Option.bind_none, Option.getD_some, Option.getD_none, V.keysIn, V.kill, V.has, decide_eq_true_eq, beq_iff_eq, bne_iff_ne, ne_eq, Bool.not_eq_true', Bool.and_true, Bool.and_self, Bool.true_and, if_true, if_false, reduceIte, Bool.false_eq_true, decide_true, decide_false, beq_self_eq_true, Bool.not_true, Bool.not_false, true_and, and_true, and_self, List.append_assoc, List.nil_append, List.cons_append, Int.toNat_natCast, ck, Int.cast_ofNat_Int, Int.reduceToNat, bne_self_eq_false, Bool.or_false, Bool.false_or, Bool.false_and, Bool.and_false, Bool.or_true, Bool.true_or]
  · simp (decide := true) only [h, rhas_ev, ofF, Tryz.f108, rid, ↓sBp, sBq, List.all_cons, List.all_nil, List.map_cons, List.map_nil, D.shape, Sh.sub, Sh.size, List.getElem?_cons_zero, List.getElem?_cons_succ, Option.bind_some, Option.bind_none, Option.getD_some, Option.getD_none, V.keysIn, V.kill, V.has, decide_eq_true_eq, beq_iff_eq, bne_iff_ne, ne_eq, Bool.not_eq_true', Bool.and_true, Bool.and_self, Bool.true_and, if_true, if_false, reduceIte, Bool.false_eq_true, decide_true, decide_false, beq_self_eq_true, Bool.not_true, Bool.not_false, true_and, and_true, and_self, List.append_assoc, List.nil_append, List.cons_append, Int.toNat_natCast, ck, Int.cast_ofNat_Int, Int.reduceToNat, bne_self_eq_false, Bool.or_false, Bool.false_or, Bool.false_and, Bool.and_false, Bool.or_true, Bool.true_or]
theorem up_ev (k : Nat) (up : Int) (c : Nat → Int) : evF Tryz.prog env xt (k+4) 101 [.d (costsD up c)] = some (.sl .ro cI (ints (listTo up 16))) := by
  rw [evF_eq Tryz.func101 (show Tryz.f101.body = some _ from rfl) rfl rfl rfl (by show 1 ≤ 6; decide)]
  simp (decide := true) only [list_ev, Tryz.f101, rid, ↓sBp, sBq, List.all_cons, List.all_nil, List.map_cons, List.map_nil, D.shape, Sh.sub, Sh.size, List.getElem?_cons_zero, List.getElem?_cons_succ, Option.bind_some, Option.bind_none, Option.getD_some, Option.getD_none, V.keysIn, V.kill, V.has, decide_eq_true_eq, beq_iff_eq, bne_iff_ne, ne_eq, Bool.not_eq_true', Bool.and_true, Bool.and_self, Bool.true_and, if_true, if_false, reduceIte, Bool.false_eq_true, decide_true, decide_false, beq_self_eq_true, Bool.not_true, Bool.not_false, true_and, and_true, and_self, List.append_assoc, List.nil_append, List.cons_append, Int.toNat_natCast, ck, Int.cast_ofNat_Int, Int.reduceToNat, bne_self_eq_false, Bool.or_false, Bool.false_or, Bool.false_and, Bool.and_false, Bool.or_true, Bool.true_or]
theorem rup_ev (k : Nat) (up : Int) (c : Nat → Int) : evF Tryz.prog env xt (k+4) 106 [.d (costsD up c)] = some (.sl .ro cI (ints (listTo up 16))) := by
  rw [evF_eq Tryz.func106 (show Tryz.f106.body = some _ from rfl) rfl rfl rfl (by show 1 ≤ 6; decide)]
  simp (decide := true) only [rlist_ev, Tryz.f106, rid, ↓sBp, sBq, List.all_cons, List.all_nil, List.map_cons, List.map_nil, D.shape, Sh.sub, Sh.size, List.getElem?_cons_zero, List.getElem?_cons_succ, Option.bind_some, Option.bind_none, Option.getD_some, Option.getD_none, V.keysIn, V.kill, V.has, decide_eq_true_eq, beq_iff_eq, bne_iff_ne, ne_eq, Bool.not_eq_true', Bool.and_true, Bool.and_self, Bool.true_and, if_true, if_false, reduceIte, Bool.false_eq_true, decide_true, decide_false, beq_self_eq_true, Bool.not_true, Bool.not_false, true_and, and_true, and_self, List.append_assoc, List.nil_append, List.cons_append, Int.toNat_natCast, ck, Int.cast_ofNat_Int, Int.reduceToNat, bne_self_eq_false, Bool.or_false, Bool.false_or, Bool.false_and, Bool.and_false, Bool.or_true, Bool.true_or]
def costOk (n cost : Int) : Bool := right n && (decide (1 ≤ cost) && decide (cost ≤ 65536))
theorem cright_ev (k : Nat) (c : Int) : evF Tryz.prog env xt (k+1) 111 [.d (.s (.int .u32 (c)))] = some (.d (.s (.bool (decide (1 ≤ c) && decide (c ≤ 65536))))) := by
  rw [evF_eq Tryz.func111 (show Tryz.f111.body = some _ from rfl) rfl rfl rfl (by show 1 ≤ 9; decide)]
  by_cases h : 1 ≤ c
  · simp (decide := true) only [h, Tryz.f111, rid, ↓sBp, sBq, List.all_cons, List.all_nil, List.map_cons, List.map_nil, D.shape, Sh.sub, Sh.size, List.getElem?_cons_zero, List.getElem?_cons_succ, Option.bind_some, Option.bind_none, Option.getD_some, Option.getD_none, V.keysIn, V.kill, V.has, decide_eq_true_eq, beq_iff_eq, bne_iff_ne, ne_eq, Bool.not_eq_true', Bool.and_true, Bool.and_self, Bool.true_and, if_true, if_false, reduceIte, Bool.false_eq_true, decide_true, decide_false, beq_self_eq_true, Bool.not_true, Bool.not_false, true_and, and_true, and_self, List.append_assoc, List.nil_append, List.cons_append, Int.toNat_natCast, ck, Int.cast_ofNat_Int, Int.reduceToNat, bne_self_eq_false, Bool.or_false, Bool.false_or, Bool.false_and, Bool.and_false, Bool.or_true, Bool.true_or]
  · simp (decide := true) only [h, Tryz.f111, rid, ↓sBp, sBq, List.all_cons, List.all_nil, List.map_cons, List.map_nil, D.shape, Sh.sub, Sh.size, List.getElem?_cons_zero, List.getElem?_cons_succ, Option.bind_some, Option.bind_none, Option.getD_some, Option.getD_none, V.keysIn, V.kill, V.has, decide_eq_true_eq, beq_iff_eq, bne_iff_ne, ne_eq, Bool.not_eq_true', Bool.and_true, Bool.and_self, Bool.true_and, if_true, if_false, reduceIte, Bool.false_eq_true, decide_true, decide_false, beq_self_eq_true, Bool.not_true, Bool.not_false, true_and, and_true, and_self, List.append_assoc, List.nil_append, List.cons_append, Int.toNat_natCast, ck, Int.cast_ofNat_Int, Int.reduceToNat, bne_self_eq_false, Bool.or_false, Bool.false_or, Bool.false_and, Bool.and_false, Bool.or_true, Bool.true_or]
theorem set_ev (k : Nat) (up : Int) (c : Nat → Int) (n cost : Int) : evF Tryz.prog env xt (k+3) 67 [.d (costsD up c), .d (.s (.int .i64 (n))), .d (.s (.int .u32 (cost)))] =
    some (.tcons (.d (if costOk n cost = true then costsD (withN up n) (setN c n.toNat cost) else costsD up c)) (.tcons (.d (.s (.int .i64 (if costOk n cost = true then 0 else 1)))) .tnil)) := by
  rw [evF_eq Tryz.func67 (show Tryz.f67.body = some _ from rfl) rfl rfl rfl (by show 3 ≤ 27; decide)]
  by_cases h : right n = true
  · have h2 := right_nn h
    by_cases h3 : 1 ≤ cost
    · by_cases h4 : cost ≤ 65536
      · simp (decide := true) only [h, h2, h3, h4, right_ev, cright_ev, with_ev, setN_u32, costOk, Tryz.f67, rid, ↓sBp, sBq, List.all_cons, List.all_nil, List.map_cons, List.map_nil, D.shape, Sh.sub, Sh.size, List.getElem?_cons_zero, List.getElem?_cons_succ, Option.bind_some, Option.bind_none, Option.getD_some, Option.getD_none, V.keysIn, V.kill, V.has, decide_eq_true_eq, beq_iff_eq, bne_iff_ne, ne_eq, Bool.not_eq_true', Bool.and_true, Bool.and_self, Bool.true_and, if_true, if_false, reduceIte, Bool.false_eq_true, decide_true, decide_false, beq_self_eq_true, Bool.not_true, Bool.not_false, true_and, and_true, and_self, List.append_assoc, List.nil_append, List.cons_append, Int.toNat_natCast, ck, Int.cast_ofNat_Int, Int.reduceToNat, bne_self_eq_false, Bool.or_false, Bool.false_or, Bool.false_and, Bool.and_false, Bool.or_true, Bool.true_or]
      · simp (decide := true) only [h, h2, h3, h4, right_ev, cright_ev, with_ev, setN_u32, costOk, Tryz.f67, rid, ↓sBp, sBq, List.all_cons, List.all_nil, List.map_cons, List.map_nil, D.shape, Sh.sub, Sh.size, List.getElem?_cons_zero, List.getElem?_cons_succ, Option.bind_some, Option.bind_none, Option.getD_some, Option.getD_none, V.keysIn, V.kill, V.has, decide_eq_true_eq, beq_iff_eq, bne_iff_ne, ne_eq, Bool.not_eq_true', Bool.and_true, Bool.and_self, Bool.true_and, if_true, if_false, reduceIte, Bool.false_eq_true, decide_true, decide_false, beq_self_eq_true, Bool.not_true, Bool.not_false, true_and, and_true, and_self, List.append_assoc, List.nil_append, List.cons_append, Int.toNat_natCast, ck, Int.cast_ofNat_Int, Int.reduceToNat, bne_self_eq_false, Bool.or_false, Bool.false_or, Bool.false_and, Bool.and_false, Bool.or_true, Bool.true_or]
    · simp (decide := true) only [h, h2, h3, right_ev, cright_ev, with_ev, setN_u32, costOk, Tryz.f67, rid, ↓sBp, sBq, List.all_cons, List.all_nil, List.map_cons, List.map_nil, D.shape, Sh.sub, Sh.size, List.getElem?_cons_zero, List.getElem?_cons_succ, Option.bind_some, Option.bind_none, Option.getD_some, Option.getD_none, V.keysIn, V.kill, V.has, decide_eq_true_eq, beq_iff_eq, bne_iff_ne, ne_eq, Bool.not_eq_true', Bool.and_true, Bool.and_self, Bool.true_and, if_true, if_false, reduceIte, Bool.false_eq_true, decide_true, decide_false, beq_self_eq_true, Bool.not_true, Bool.not_false, true_and, and_true, and_self, List.append_assoc, List.nil_append, List.cons_append, Int.toNat_natCast, ck, Int.cast_ofNat_Int, Int.reduceToNat, bne_self_eq_false, Bool.or_false, Bool.false_or, Bool.false_and, Bool.and_false, Bool.or_true, Bool.true_or]
  · simp (decide := true) only [h, right_ev, costOk, Tryz.f67, rid, ↓sBp, sBq, List.all_cons, List.all_nil, List.map_cons, List.map_nil, D.shape, Sh.sub, Sh.size, List.getElem?_cons_zero, List.getElem?_cons_succ, Option.bind_some, Option.bind_none, Option.getD_some, Option.getD_none, V.keysIn, V.kill, V.has, decide_eq_true_eq, beq_iff_eq, bne_iff_ne, ne_eq, Bool.not_eq_true', Bool.and_true, Bool.and_self, Bool.true_and, if_true, if_false, reduceIte, Bool.false_eq_true, decide_true, decide_false, beq_self_eq_true, Bool.not_true, Bool.not_false, true_and, and_true, and_self, List.append_assoc, List.nil_append, List.cons_append, Int.toNat_natCast, ck, Int.cast_ofNat_Int, Int.reduceToNat, bne_self_eq_false, Bool.or_false, Bool.false_or, Bool.false_and, Bool.and_false, Bool.or_true, Bool.true_or]
theorem cut_ev (k : Nat) (up : Int) (c : Nat → Int) (n : Int) : evF Tryz.prog env xt (k+3) 77 [.d (costsD up c), .d (.s (.int .i64 (n)))] =
    some (.d (if right n = true then costsD (withoutN up n) (setN c n.toNat 0) else costsD up c)) := by
  rw [evF_eq Tryz.func77 (show Tryz.f77.body = some _ from rfl) rfl rfl rfl (by show 2 ≤ 18; decide)]
  by_cases h : right n = true
  · have h2 := right_nn h
    simp (decide := true) only [h, h2, right_ev, without_ev, setN_u32, Tryz.f77, rid, ↓sBp, sBq, List.all_cons, List.all_nil, List.map_cons, List.map_nil, D.shape, Sh.sub, Sh.size, List.getElem?_cons_zero, List.getElem?_cons_succ, Option.bind_some, Option.bind_none, Option.getD_some, Option.getD_none, V.keysIn, V.kill, V.has, decide_eq_true_eq, beq_iff_eq, bne_iff_ne, ne_eq, Bool.not_eq_true', Bool.and_true, Bool.and_self, Bool.true_and, if_true, if_false, reduceIte, Bool.false_eq_true, decide_true, decide_false, beq_self_eq_true, Bool.not_true, Bool.not_false, true_and, and_true, and_self, List.append_assoc, List.nil_append, List.cons_append, Int.toNat_natCast, ck, Int.cast_ofNat_Int, Int.reduceToNat, bne_self_eq_false, Bool.or_false, Bool.false_or, Bool.false_and, Bool.and_false, Bool.or_true, Bool.true_or]
  · simp (decide := true) only [h, right_ev, Tryz.f77, rid, ↓sBp, sBq, List.all_cons, List.all_nil, List.map_cons, List.map_nil, D.shape, Sh.sub, Sh.size, List.getElem?_cons_zero, List.getElem?_cons_succ, Option.bind_some, Option.bind_none, Option.getD_some, Option.getD_none, V.keysIn, V.kill, V.has, decide_eq_true_eq, beq_iff_eq, bne_iff_ne, ne_eq, Bool.not_eq_true', Bool.and_true, Bool.and_self, Bool.true_and, if_true, if_false, reduceIte, Bool.false_eq_true, decide_true, decide_false, beq_self_eq_true, Bool.not_true, Bool.not_false, true_and, and_true, and_self, List.append_assoc, List.nil_append, List.cons_append, Int.toNat_natCast, ck, Int.cast_ofNat_Int, Int.reduceToNat, bne_self_eq_false, Bool.or_false, Bool.false_or, Bool.false_and, Bool.and_false, Bool.or_true, Bool.true_or]
end Go.Proofs.YtjceimcepogkaaaGreatDoor.Ev
/- FormatUint answered from outside, where its table lies; trees and links as texts. -/
namespace Go.Proofs.YtjceimcepogkaaaGreatDoor.Ev
open Go
attribute [local congr] ob_congr sq_congr cd_congr ite_congr1 iter_congr it1_congr jumps_congr
set_option maxRecDepth 100000
set_option linter.unusedSimpArgs false
set_option linter.unusedVariables false
open Go.Shelf Go.RowKit Go.Sort Go.Lib
theorem Below.ofK {B : Nat} {w w' : World} (h : Go.RowKit.Below B w w') : Below B w w' := ⟨h.os, h.tape, h.output, h.size, h.block, fun e => by cases e⟩
/-- The table lies in its variable. -/
def JP (w : World) : Prop := Lib.TabIs Tryz.prog w "internal/strconv.uint64pow10" .u64 Lib.pow10Tab
theorem gPow : Tryz.prog.globalNamed "internal/strconv.uint64pow10" = some 0 := by kernel_rfl
theorem JP_keep (w w' : World) (B : Nat) (hB : 1 ≤ B) (hb : Below B w w') (h : JP w) : JP w' := by
  unfold JP Lib.TabIs World.var? at *
  rw [gPow] at h ⊢
  simp only [Option.bind_some] at h ⊢
  rw [hb.block 0 (by omega)]
  exact h
theorem fmt_calls (u : Nat) (hu : u < 18446744073709551616) (w : World) (hJ : JP w) : Calls Tryz.prog 128 #[.int .u64 u, .int .i64 10] w fun e w' => e = .returned (.string ⟨(Lib.decDigits u).toArray⟩) ∧ Go.RowKit.Below w.heap.size w w' := by
  by_cases h : u < 100
  · refine (fu_small u h w).mono ?_
    rintro e w' ⟨rfl, rfl⟩
    exact ⟨rfl, Go.RowKit.Below.refl _ _⟩
  · refine (fu_big u (by omega) hu w hJ).mono ?_
    rintro e w' ⟨rfl, k, os, rfl⟩
    exact ⟨rfl, Lib.below_grow _ w (Nat.le_refl _) k os⟩
theorem fmtU_calls (u : Nat) (hu : u < 18446744073709551616) (w : World) (hJ : JP w) : Calls Tryz.prog 99 #[.int .u64 u, .int .i64 10] w fun e w' => e = .returned (.string ⟨(Lib.decDigits u).toArray⟩) ∧ Go.RowKit.Below w.heap.size w w' := by
  have h := fmt_calls u hu w hJ
  go_enter Tryz.func99, Tryz.ntmps99
  go_wp2_with (go_at_call 128; refine h.mono ?_; rintro e w' ⟨rfl, hb⟩)
  go_ret
  exact ⟨rfl, hb⟩
def fuRes : List V → Option V
  | [.d (.s (.int .u64 n)), .d (.s (.int .i64 b))] => if b = 10 ∧ 0 ≤ n ∧ n < 18446744073709551616 then some (.d (.s (.string (decB n)))) else none
  | _ => none
def xu (f : Nat) (l : List V) : Option V :=
  match f == 99 with
  | true => fuRes l
  | false => xt f l
theorem fu_at (l : List V) (r : V) (h : fuRes l = some r) (w : World) (hJ : JP w) : CallAt Tryz.prog w 99 l r := by
  unfold fuRes at h
  split at h
  · rename_i n b
    split at h
    · rename_i hn
      cases h
      obtain ⟨rfl, h0, h1⟩ := hn
      refine ⟨⟨Tryz.f99, Tryz.func99, by kernel_rfl, by kernel_rfl⟩, fun vs hra => ?_⟩
      match vs, hra with
      | [u, v], hra =>
        obtain ⟨⟨_, rfl⟩, ⟨_, rfl⟩, _⟩ := hra
        obtain ⟨m, rfl⟩ : ∃ m : Nat, n = m := ⟨n.toNat, by omega⟩
        refine (fmtU_calls m (by omega) w hJ).mono fun e w' ⟨he, hb⟩ => ?_
        refine ⟨_, he, Below.ofK hb, rfl, ?_⟩
        unfold decB
        rw [Int.toNat_natCast]; rfl
    · cases h
  · cases h
theorem xu_ok : ∀ f l r, xu f l = some r → ∀ w, JP w → 1 ≤ w.heap.size → CallAt Tryz.prog w f l r := by
  intro f l r h w hJ _
  unfold xu at h
  cases h1 : f == 99 with
  | false => rw [h1] at h; exact (xt_ok f l r h).at w
  | true =>
    rw [h1] at h
    obtain rfl : f = 99 := beq_iff_eq.1 h1
    exact fu_at l r h w hJ
theorem xu_xt : ∀ g l r, xt g l = some r → xu g l = some r := by
  intro g l r h
  unfold xu
  cases h1 : g == 99 with
  | false => exact h
  | true =>
    obtain rfl : g = 99 := beq_iff_eq.1 h1
    have e : xt 99 l = none := rfl
    rw [e] at h; cases h
theorem xu_new : ∀ g l, xt g l = none → xu g l ≠ none → env.ok g = false := by
  intro g l h h2
  unfold xu at h2
  cases h1 : g == 99 with
  | false => rw [h1] at h2; exact absurd h h2
  | true =>
    obtain rfl : g = 99 := beq_iff_eq.1 h1
    rfl
theorem up_u {n f : Nat} {l : List V} {r : V} (h : evF Tryz.prog env xt n f l = some r) : evF Tryz.prog env xu n f l = some r := evF_mono xu_xt xu_new n f l r h
theorem fmtU_ev (K : Nat) (n : Int) (h0 : 0 ≤ n) (h1 : n < 4294967296) : evF Tryz.prog env xu (K+1) 99 [.d (.s (.int .u64 n)), .d (.s (.int .i64 (10)))] = some (.d (.s (.string (decB n)))) := by
  have e : xu 99 [.d (.s (.int .u64 n)), .d (.s (.int .i64 (10)))] = some (.d (.s (.string (decB n)))) := if_pos ⟨rfl, h0, by omega⟩
  simp only [evF, e]
/- Trees. -/
def tpc (d p : Nat → Int) (n : Int) : ByteArray := ((textF (withN 0 n) ++ decB (d n.toNat)) ++ textF (withN 0 (p n.toNat))) ++ (⟨#[32]⟩ : ByteArray)
def ttTo (d p : Nat → Int) (L : List Int) (k : Nat) : ByteArray := upto (fun i s => s ++ tpc d p (L.getD i 0)) ⟨#[]⟩ k
def ttxt (d p : Nat → Int) : ByteArray := ttTo d p (listTo (reached d) 16) (listTo (reached d) 16).length
theorem ttTo_succ (d p : Nat → Int) (L : List Int) (k : Nat) {n : Int} (h : L.getD k 0 = n) : ttTo d p L (k + 1) = ttTo d p L k ++ (((textF (withN 0 n) ++ decB (d n.toNat)) ++ textF (withN 0 (p n.toNat))) ++ (⟨#[32]⟩ : ByteArray)) := by subst h; rfl
structure UU (d : Nat → Int) : Prop where
  at' : ∀ i, 0 ≤ d i ∧ d i < 4294967296
theorem ttTo_size {d p : Nat → Int} (hd : UU d) (L : List Int) : ∀ k, (ttTo d p L k).size ≤ 43 * k
  | 0 => Nat.le_refl _
  | k + 1 => by
    have ih := ttTo_size (p := p) hd L k
    show (ttTo d p L k ++ tpc d p (L.getD k 0)).size ≤ _
    have h1 := textF_size (withN 0 (L.getD k 0))
    have h2 := textF_size (withN 0 (p (L.getD k 0).toNat))
    have h3 := decB_size (hd.at' (L.getD k 0).toNat).2
    unfold tpc
    simp only [ByteArray.size_append]
    have e2 : (⟨#[32]⟩ : ByteArray).size = 1 := rfl
    omega
theorem ttext_step (d p : Nat → Int) (hd : UU d) (L : List Int) (hL : L.length ≤ 16) (k : Nat) (hk : k < L.length) (m : Nat) :
    (∀ t, evBin env .add t (.d (.s (.string (textF (withN 0 (m : Int)))))) (.d (.s (.string (decB (d m))))) = some (.d (.s (.string (textF (withN 0 (m : Int)) ++ decB (d m)))))) ∧
    (∀ t, evBin env .add t (.d (.s (.string (textF (withN 0 (m : Int)) ++ decB (d m))))) (.d (.s (.string (textF (withN 0 (p m)))))) = some (.d (.s (.string ((textF (withN 0 (m : Int)) ++ decB (d m)) ++ textF (withN 0 (p m))))))) ∧
    (∀ t, evBin env .add t (.d (.s (.string ((textF (withN 0 (m : Int)) ++ decB (d m)) ++ textF (withN 0 (p m)))))) (.d (.s (.string ⟨#[32]⟩))) = some (.d (.s (.string (((textF (withN 0 (m : Int)) ++ decB (d m)) ++ textF (withN 0 (p m))) ++ (⟨#[32]⟩ : ByteArray)))))) ∧
    (∀ t, evBin env .add t (.d (.s (.string (ttTo d p L k)))) (.d (.s (.string (((textF (withN 0 (m : Int)) ++ decB (d m)) ++ textF (withN 0 (p m))) ++ (⟨#[32]⟩ : ByteArray))))) = some (.d (.s (.string (ttTo d p L k ++ (((textF (withN 0 (m : Int)) ++ decB (d m)) ++ textF (withN 0 (p m))) ++ (⟨#[32]⟩ : ByteArray))))))) := by
  have h1 := textF_size (withN 0 (m : Int))
  have h2 := textF_size (withN 0 (p m))
  have h3 := decB_size (hd.at' m).2
  have h4 := ttTo_size (p := p) hd L k
  have e2 : (⟨#[32]⟩ : ByteArray).size = 1 := rfl
  refine ⟨fun t => evBin_addS env t _ _ (by omega), fun t => evBin_addS env t _ _ (by simp only [ByteArray.size_append]; omega), fun t => evBin_addS env t _ _ (by simp only [ByteArray.size_append]; omega), fun t => evBin_addS env t _ _ (by simp only [ByteArray.size_append]; omega)⟩
theorem ttext_ev (K : Nat) (d p : Nat → Int) (hd : UU d) : evF Tryz.prog env xu (K+6) 52 [.d (treeD d p)] = some (.d (.s (.string (ttxt d p)))) := by
  rw [evF_eq Tryz.func52 (show Tryz.f52.body = some _ from rfl) rfl rfl rfl (by show 1 ≤ 41; decide)]
  have eN : evF Tryz.prog env xu (K+5) 32 [.d (.s (.int .i64 (-1)))] = some (.d (treeD (putN farD (-1) 0) farP)) := up_u (new_ev (K+3) (-1))
  have eR : evF Tryz.prog env xu (K+5) 69 [.d (treeD d p)] = some (.d (.s (.int .i64 (reached d)))) := up_u (reached_ev (K+2) d p)
  have eL : evF Tryz.prog env xu (K+5) 63 [.d (.s (.int .i64 (reached d)))] = some (.sl .ro cI (ints (listTo (reached d) 16))) := up_u (list_ev (K+2) (reached d))
  rcases Bool.eq_false_or_eq_true ((treeD d p).eqv (treeD (putN farD (-1) 0) farP)) with h | h
  · have e : ttxt d p = ⟨#[]⟩ := by
      have hz : listTo (reached d) 16 = [] := by
        refine List.eq_nil_of_length_eq_zero (Classical.byContradiction fun hn => ?_)
        obtain ⟨m, hm, hh, _⟩ := listTo_get (reached d) (show 0 < (listTo (reached d) 16).length by omega)
        unfold reached at hh
        rw [has_setOf _ hm] at hh
        rw [tree_eqv, List.all_eq_true] at h
        have := h m (by simpa using hm)
        simp only [Bool.and_eq_true, beq_iff_eq] at this
        have e2 : putN farD (-1) 0 m = 4294967295 := by
          show farD m = 4294967295
          unfold farD fillTo
          rw [if_pos hm]
        rw [this.1, e2] at hh
        simp at hh
      unfold ttxt
      rw [hz]; rfl
    rw [e]
    simp (decide := true) only [eN, h, Tryz.f52, rid, kl52_5, dp52_1, dp52_8, ↓sBp, sBq, List.all_cons, List.all_nil, List.map_cons, List.map_nil, D.shape, Sh.sub, Sh.size, List.getElem?_cons_zero, List.getElem?_cons_succ, Option.bind_some, Option.bind_none, Option.getD_some, Option.getD_none, V.keysIn, V.kill, V.has, decide_eq_true_eq, beq_iff_eq, bne_iff_ne, ne_eq, Bool.not_eq_true', Bool.and_true, Bool.and_self, Bool.true_and, if_true, if_false, reduceIte, Bool.false_eq_true, decide_true, decide_false, beq_self_eq_true, Bool.not_true, Bool.not_false, true_and, and_true, and_self, List.append_assoc, List.nil_append, List.cons_append, Int.toNat_natCast, ck, Int.cast_ofNat_Int, Int.reduceToNat, bne_self_eq_false, Bool.or_false, Bool.false_or, Bool.false_and, Bool.and_false, Bool.or_true, Bool.true_or]
  · have hlen := listTo_len (reached d) 16
    have hle := ints_length (listTo (reached d) 16)
    simp (decide := true) only [eN, h, eR, eL, Tryz.f52, rid, kl52_5, dp52_1, dp52_8, ↓sBp, sBq, List.all_cons, List.all_nil, List.map_cons, List.map_nil, D.shape, Sh.sub, Sh.size, List.getElem?_cons_zero, List.getElem?_cons_succ, Option.bind_some, Option.bind_none, Option.getD_some, Option.getD_none, V.keysIn, V.kill, V.has, decide_eq_true_eq, beq_iff_eq, bne_iff_ne, ne_eq, Bool.not_eq_true', Bool.and_true, Bool.and_self, Bool.true_and, if_true, if_false, reduceIte, Bool.false_eq_true, decide_true, decide_false, beq_self_eq_true, Bool.not_true, Bool.not_false, true_and, and_true, and_self, List.append_assoc, List.nil_append, List.cons_append, Int.toNat_natCast, ck, Int.cast_ofNat_Int, Int.reduceToNat, bne_self_eq_false, Bool.or_false, Bool.false_or, Bool.false_and, Bool.and_false, Bool.or_true, Bool.true_or]
    rw [iter_run (S := fun k => ⟨tab .junk [(1, .ptr 1 (shT) [] (shT)), (3, .d (.s (.string (ttTo d p (listTo (reached d) 16) k)))), (12, .sl (.tg 12) cI (ints (listTo (reached d) 16))), (13, .d (.s (.int .i64 ((listTo (reached d) 16).length)))), (14, .d (.s (.int .i64 (k))))], tab none [(1, some (.box (treeD d p))), (12, some .row)]⟩) (n := (listTo (reached d) 16).length) (h0 := ?h0) (hn := ?hn) (step := ?step)]
    case h0 => rw [hle]; rfl
    case hn => exact lt_loopFuel (by omega)
    case step =>
      intro k hk
      have hk1 : (k : Int) < ((listTo (reached d) 16).length : Int) := by omega
      have hk0 : (0 : Int) ≤ k := by omega
      have hkw := wrap_succ k (by omega)
      obtain ⟨m, hm, hh, he⟩ := listTo_get (reached d) hk
      have hi := ints_get he
      have hg : (listTo (reached d) 16).getD k 0 = (m : Int) := by simp [List.getD, he]
      have hm1 : (m : Int) < 16 := by omega
      have hm0 : (0 : Int) ≤ m := by omega
      have hs := ttTo_succ d p (listTo (reached d) 16) k hg
      rw [Int.toNat_natCast] at hs
      obtain ⟨a1, a2, a3, a4⟩ := ttext_step d p hd (listTo (reached d) 16) hlen k hk m
      obtain ⟨d0, d1⟩ := hd.at' m
      have w1 : IntKind.u64.wrap (d m) = d m := IntWalk.u64_in _ (by omega)
      have t1 : evF Tryz.prog env xu (K+5) 100 [.d (.s (.int .i64 (0))), .d (.s (.int .i64 ((m : Nat))))] = some (.d (.s (.int .i64 (withN 0 m)))) := up_u (with_ev (K+3) 0 m)
      have t2 : evF Tryz.prog env xu (K+5) 100 [.d (.s (.int .i64 (0))), .d (.s (.int .i64 (p m)))] = some (.d (.s (.int .i64 (withN 0 (p m))))) := up_u (with_ev (K+3) 0 (p m))
      have t3 : evF Tryz.prog env xu (K+5) 56 [.d (.s (.int .i64 (withN 0 (m : Int))))] = some (.d (.s (.string (textF (withN 0 (m : Int)))))) := up_u (text_ev (K+1) (inI_withN inI_zero _))
      have t4 : evF Tryz.prog env xu (K+5) 56 [.d (.s (.int .i64 (withN 0 (p m))))] = some (.d (.s (.string (textF (withN 0 (p m)))))) := up_u (text_ev (K+1) (inI_withN inI_zero _))
      have t5 := fmtU_ev (K+4) (d m) d0 d1
      simp (decide := true) only [hk1, hk0, hkw, hi, hm1, hm0, w1, t1, t2, t3, t4, t5, a1, a2, a3, a4, hs, Tryz.f52, rid, kl52_5, dp52_1, dp52_8, ↓sBp, sBq, List.all_cons, List.all_nil, List.map_cons, List.map_nil, D.shape, Sh.sub, Sh.size, List.getElem?_cons_zero, List.getElem?_cons_succ, Option.bind_some, Option.bind_none, Option.getD_some, Option.getD_none, V.keysIn, V.kill, V.has, decide_eq_true_eq, beq_iff_eq, bne_iff_ne, ne_eq, Bool.not_eq_true', Bool.and_true, Bool.and_self, Bool.true_and, if_true, if_false, reduceIte, Bool.false_eq_true, decide_true, decide_false, beq_self_eq_true, Bool.not_true, Bool.not_false, true_and, and_true, and_self, List.append_assoc, List.nil_append, List.cons_append, Int.toNat_natCast, ck, Int.cast_ofNat_Int, Int.reduceToNat, bne_self_eq_false, Bool.or_false, Bool.false_or, Bool.false_and, Bool.and_false, Bool.or_true, Bool.true_or]
    simp (decide := true) only [Int.lt_irrefl, ttxt, Tryz.f52, rid, kl52_5, dp52_1, dp52_8, ↓sBp, sBq, List.all_cons, List.all_nil, List.map_cons, List.map_nil, D.shape, Sh.sub, Sh.size, List.getElem?_cons_zero, List.getElem?_cons_succ, Option.bind_some, Option.bind_none, Option.getD_some, Option.getD_none, V.keysIn, V.kill, V.has, decide_eq_true_eq, beq_iff_eq, bne_iff_ne, ne_eq, Bool.not_eq_true', Bool.and_true, Bool.and_self, Bool.true_and, if_true, if_false, reduceIte, Bool.false_eq_true, decide_true, decide_false, beq_self_eq_true, Bool.not_true, Bool.not_false, true_and, and_true, and_self, List.append_assoc, List.nil_append, List.cons_append, Int.toNat_natCast, ck, Int.cast_ofNat_Int, Int.reduceToNat, bne_self_eq_false, Bool.or_false, Bool.false_or, Bool.false_and, Bool.and_false, Bool.or_true, Bool.true_or]
theorem rttext_ev (K : Nat) (d p : Nat → Int) (hd : UU d) : evF Tryz.prog env xu (K+12) 58 [.d (treeD d p)] = some (.d (.s (.string (ttxt d p)))) := by
  rw [evF_eq Tryz.func58 (show Tryz.f58.body = some _ from rfl) rfl rfl rfl (by show 1 ≤ 35; decide)]
  have eR : evF Tryz.prog env xu (K+11) 39 [.d (treeD d p)] = some (.d (.s (.int .i64 (reached d)))) := up_u (rreached_ev (K+8) d p)
  have eL : evF Tryz.prog env xu (K+11) 47 [.d (.s (.int .i64 (reached d)))] = some (.sl .ro cI (ints (listTo (reached d) 16))) := up_u (rlist_ev (K+8) (reached d))
  have hlen := listTo_len (reached d) 16
  have hle := ints_length (listTo (reached d) 16)
  simp (decide := true) only [eR, eL, Tryz.f58, rid, kl58_3, dp58_5, ↓sBp, sBq, List.all_cons, List.all_nil, List.map_cons, List.map_nil, D.shape, Sh.sub, Sh.size, List.getElem?_cons_zero, List.getElem?_cons_succ, Option.bind_some, Option.bind_none, Option.getD_some, Option.getD_none, V.keysIn, V.kill, V.has, decide_eq_true_eq, beq_iff_eq, bne_iff_ne, ne_eq, Bool.not_eq_true', Bool.and_true, Bool.and_self, Bool.true_and, if_true, if_false, reduceIte, Bool.false_eq_true, decide_true, decide_false, beq_self_eq_true, Bool.not_true, Bool.not_false, true_and, and_true, and_self, List.append_assoc, List.nil_append, List.cons_append, Int.toNat_natCast, ck, Int.cast_ofNat_Int, Int.reduceToNat, bne_self_eq_false, Bool.or_false, Bool.false_or, Bool.false_and, Bool.and_false, Bool.or_true, Bool.true_or]
  rw [iter_run (S := fun k => ⟨tab .junk [(1, .ptr 1 (shT) [] (shT)), (3, .d (.s (.string (ttTo d p (listTo (reached d) 16) k)))), (8, .sl (.tg 8) cI (ints (listTo (reached d) 16))), (9, .d (.s (.int .i64 ((listTo (reached d) 16).length)))), (10, .d (.s (.int .i64 (k))))], tab none [(1, some (.box (treeD d p))), (8, some .row)]⟩) (n := (listTo (reached d) 16).length) (h0 := ?h0) (hn := ?hn) (step := ?step)]
  case h0 => rw [hle]; rfl
  case hn => exact lt_loopFuel (by omega)
  case step =>
    intro k hk
    have hk1 : (k : Int) < ((listTo (reached d) 16).length : Int) := by omega
    have hk0 : (0 : Int) ≤ k := by omega
    have hkw := wrap_succ k (by omega)
    obtain ⟨m, hm, hh, he⟩ := listTo_get (reached d) hk
    have hi := ints_get he
    have hg : (listTo (reached d) 16).getD k 0 = (m : Int) := by simp [List.getD, he]
    have hm1 : (m : Int) < 16 := by omega
    have hm0 : (0 : Int) ≤ m := by omega
    have hs := ttTo_succ d p (listTo (reached d) 16) k hg
    rw [Int.toNat_natCast] at hs
    obtain ⟨a1, a2, a3, a4⟩ := ttext_step d p hd (listTo (reached d) 16) hlen k hk m
    obtain ⟨d0, d1⟩ := hd.at' m
    have t1 : evF Tryz.prog env xu (K+11) 85 [.d (.s (.int .i64 (0))), .d (.s (.int .i64 ((m : Nat))))] = some (.d (.s (.int .i64 (withN 0 m)))) := up_u (rwith_ev (K+9) 0 m)
    have t2 : evF Tryz.prog env xu (K+11) 85 [.d (.s (.int .i64 (0))), .d (.s (.int .i64 (p m)))] = some (.d (.s (.int .i64 (withN 0 (p m))))) := up_u (rwith_ev (K+9) 0 (p m))
    have t3 : evF Tryz.prog env xu (K+11) 61 [.d (.s (.int .i64 (withN 0 (m : Int))))] = some (.d (.s (.string (textF (withN 0 (m : Int)))))) := up_u (rtext_ev (K+7) _)
    have t4 : evF Tryz.prog env xu (K+11) 61 [.d (.s (.int .i64 (withN 0 (p m))))] = some (.d (.s (.string (textF (withN 0 (p m)))))) := up_u (rtext_ev (K+7) _)
    have t5 : evF Tryz.prog env xu (K+11) 105 [.d (.s (.int .u32 (d m)))] = some (.d (.s (.string (decB (d m))))) := up_u (dig23_ev (K+1) 9 (d m) d0 (by omega) d1)
    simp (decide := true) only [hk1, hk0, hkw, hi, hm1, hm0, t1, t2, t3, t4, t5, a1, a2, a3, a4, hs, Tryz.f58, rid, kl58_3, dp58_5, ↓sBp, sBq, List.all_cons, List.all_nil, List.map_cons, List.map_nil, D.shape, Sh.sub, Sh.size, List.getElem?_cons_zero, List.getElem?_cons_succ, Option.bind_some, Option.bind_none, Option.getD_some, Option.getD_none, V.keysIn, V.kill, V.has, decide_eq_true_eq, beq_iff_eq, bne_iff_ne, ne_eq, Bool.not_eq_true', Bool.and_true, Bool.and_self, Bool.true_and, if_true, if_false, reduceIte, Bool.false_eq_true, decide_true, decide_false, beq_self_eq_true, Bool.not_true, Bool.not_false, true_and, and_true, and_self, List.append_assoc, List.nil_append, List.cons_append, Int.toNat_natCast, ck, Int.cast_ofNat_Int, Int.reduceToNat, bne_self_eq_false, Bool.or_false, Bool.false_or, Bool.false_and, Bool.and_false, Bool.or_true, Bool.true_or]
  simp (decide := true) only [Int.lt_irrefl, ttxt, Tryz.f58, rid, kl58_3, dp58_5, ↓sBp, sBq, List.all_cons, List.all_nil, List.map_cons, List.map_nil, D.shape, Sh.sub, Sh.size, List.getElem?_cons_zero, List.getElem?_cons_succ, Option.bind_some, Option.bind_none, Option.getD_some, Option.getD_none, V.keysIn, V.kill, V.has, decide_eq_true_eq, beq_iff_eq, bne_iff_ne, ne_eq, Bool.not_eq_true', Bool.and_true, Bool.and_self, Bool.true_and, if_true, if_false, reduceIte, Bool.false_eq_true, decide_true, decide_false, beq_self_eq_true, Bool.not_true, Bool.not_false, true_and, and_true, and_self, List.append_assoc, List.nil_append, List.cons_append, Int.toNat_natCast, ck, Int.cast_ofNat_Int, Int.reduceToNat, bne_self_eq_false, Bool.or_false, Bool.false_or, Bool.false_and, Bool.and_false, Bool.or_true, Bool.true_or]
/- Links. -/
def cpc (c : Nat → Int) (n : Int) : ByteArray := (textF (withN 0 n) ++ decB (c n.toNat)) ++ (⟨#[32]⟩ : ByteArray)
def ctTo (c : Nat → Int) (L : List Int) (k : Nat) : ByteArray := upto (fun i s => s ++ cpc c (L.getD i 0)) ⟨#[]⟩ k
def ctxt (up : Int) (c : Nat → Int) : ByteArray := ctTo c (listTo up 16) (listTo up 16).length
theorem ctTo_succ (c : Nat → Int) (L : List Int) (k : Nat) {n : Int} (h : L.getD k 0 = n) : ctTo c L (k + 1) = ctTo c L k ++ ((textF (withN 0 n) ++ decB (c n.toNat)) ++ (⟨#[32]⟩ : ByteArray)) := by subst h; rfl
theorem ctTo_size {c : Nat → Int} (hd : UU c) (L : List Int) : ∀ k, (ctTo c L k).size ≤ 27 * k
  | 0 => Nat.le_refl _
  | k + 1 => by
    have ih := ctTo_size hd L k
    show (ctTo c L k ++ cpc c (L.getD k 0)).size ≤ _
    have h1 := textF_size (withN 0 (L.getD k 0))
    have h3 := decB_size (hd.at' (L.getD k 0).toNat).2
    unfold cpc
    simp only [ByteArray.size_append]
    have e2 : (⟨#[32]⟩ : ByteArray).size = 1 := rfl
    omega
theorem rctext_ev (K : Nat) (up : Int) (c : Nat → Int) (hd : UU c) : evF Tryz.prog env xu (K+12) 59 [.d (costsD up c)] = some (.d (.s (.string (ctxt up c)))) := by
  rw [evF_eq Tryz.func59 (show Tryz.f59.body = some _ from rfl) rfl rfl rfl (by show 1 ≤ 26; decide)]
  have eL : evF Tryz.prog env xu (K+11) 106 [.d (costsD up c)] = some (.sl .ro cI (ints (listTo up 16))) := up_u (rup_ev (K+7) up c)
  have hlen := listTo_len up 16
  have hle := ints_length (listTo up 16)
  simp (decide := true) only [eL, Tryz.f59, rid, kl59_3, dp59_5, ↓sBp, sBq, List.all_cons, List.all_nil, List.map_cons, List.map_nil, D.shape, Sh.sub, Sh.size, List.getElem?_cons_zero, List.getElem?_cons_succ, Option.bind_some, Option.bind_none, Option.getD_some, Option.getD_none, V.keysIn, V.kill, V.has, decide_eq_true_eq, beq_iff_eq, bne_iff_ne, ne_eq, Bool.not_eq_true', Bool.and_true, Bool.and_self, Bool.true_and, if_true, if_false, reduceIte, Bool.false_eq_true, decide_true, decide_false, beq_self_eq_true, Bool.not_true, Bool.not_false, true_and, and_true, and_self, List.append_assoc, List.nil_append, List.cons_append, Int.toNat_natCast, ck, Int.cast_ofNat_Int, Int.reduceToNat, bne_self_eq_false, Bool.or_false, Bool.false_or, Bool.false_and, Bool.and_false, Bool.or_true, Bool.true_or]
  rw [iter_run (S := fun k => ⟨tab .junk [(1, .ptr 1 (shC) [] (shC)), (3, .d (.s (.string (ctTo c (listTo up 16) k)))), (7, .sl (.tg 7) cI (ints (listTo up 16))), (8, .d (.s (.int .i64 ((listTo up 16).length)))), (9, .d (.s (.int .i64 (k))))], tab none [(1, some (.box (costsD up c))), (7, some .row)]⟩) (n := (listTo up 16).length) (h0 := ?h0) (hn := ?hn) (step := ?step)]
  case h0 => rw [hle]; rfl
  case hn => exact lt_loopFuel (by omega)
  case step =>
    intro k hk
    have hk1 : (k : Int) < ((listTo up 16).length : Int) := by omega
    have hk0 : (0 : Int) ≤ k := by omega
    have hkw := wrap_succ k (by omega)
    obtain ⟨m, hm, hh, he⟩ := listTo_get up hk
    have hi := ints_get he
    have hg : (listTo up 16).getD k 0 = (m : Int) := by simp [List.getD, he]
    have hs := ctTo_succ c (listTo up 16) k hg
    rw [Int.toNat_natCast] at hs
    obtain ⟨d0, d1⟩ := hd.at' m
    have ho : ofF up c m = c m := by unfold ofF; rw [if_pos hh, Int.toNat_natCast]
    have h1 := textF_size (withN 0 (m : Int))
    have h3 := decB_size d1
    have h4 := ctTo_size hd (listTo up 16) k
    have e2 : (⟨#[32]⟩ : ByteArray).size = 1 := rfl
    have a1 := fun t => evBin_addS env t (textF (withN 0 (m : Int))) (decB (c m)) (by omega)
    have a2 := fun t => evBin_addS env t (textF (withN 0 (m : Int)) ++ decB (c m)) ⟨#[32]⟩ (by simp only [ByteArray.size_append]; omega)
    have a3 := fun t => evBin_addS env t (ctTo c (listTo up 16) k) ((textF (withN 0 (m : Int)) ++ decB (c m)) ++ (⟨#[32]⟩ : ByteArray)) (by simp only [ByteArray.size_append]; omega)
    have t1 : evF Tryz.prog env xu (K+11) 85 [.d (.s (.int .i64 (0))), .d (.s (.int .i64 ((m : Nat))))] = some (.d (.s (.int .i64 (withN 0 m)))) := up_u (rwith_ev (K+9) 0 m)
    have t3 : evF Tryz.prog env xu (K+11) 61 [.d (.s (.int .i64 (withN 0 (m : Int))))] = some (.d (.s (.string (textF (withN 0 (m : Int)))))) := up_u (rtext_ev (K+7) _)
    have t4 : evF Tryz.prog env xu (K+11) 108 [.d (costsD up c), .d (.s (.int .i64 ((m : Nat))))] = some (.d (.s (.int .u32 (ofF up c m)))) := up_u (rof_ev (K+8) up c m)
    rw [ho] at t4
    have t5 : evF Tryz.prog env xu (K+11) 107 [.d (.s (.int .u32 (c m)))] = some (.d (.s (.string (decB (c m))))) := up_u (dig14_ev (K+1) 9 (c m) d0 (by omega) d1)
    simp (decide := true) only [hk1, hk0, hkw, hi, t1, t3, t4, t5, a1, a2, a3, hs, Tryz.f59, rid, kl59_3, dp59_5, ↓sBp, sBq, List.all_cons, List.all_nil, List.map_cons, List.map_nil, D.shape, Sh.sub, Sh.size, List.getElem?_cons_zero, List.getElem?_cons_succ, Option.bind_some, Option.bind_none, Option.getD_some, Option.getD_none, V.keysIn, V.kill, V.has, decide_eq_true_eq, beq_iff_eq, bne_iff_ne, ne_eq, Bool.not_eq_true', Bool.and_true, Bool.and_self, Bool.true_and, if_true, if_false, reduceIte, Bool.false_eq_true, decide_true, decide_false, beq_self_eq_true, Bool.not_true, Bool.not_false, true_and, and_true, and_self, List.append_assoc, List.nil_append, List.cons_append, Int.toNat_natCast, ck, Int.cast_ofNat_Int, Int.reduceToNat, bne_self_eq_false, Bool.or_false, Bool.false_or, Bool.false_and, Bool.and_false, Bool.or_true, Bool.true_or]
  simp (decide := true) only [Int.lt_irrefl, ctxt, Tryz.f59, rid, kl59_3, dp59_5, ↓sBp, sBq, List.all_cons, List.all_nil, List.map_cons, List.map_nil, D.shape, Sh.sub, Sh.size, List.getElem?_cons_zero, List.getElem?_cons_succ, Option.bind_some, Option.bind_none, Option.getD_some, Option.getD_none, V.keysIn, V.kill, V.has, decide_eq_true_eq, beq_iff_eq, bne_iff_ne, ne_eq, Bool.not_eq_true', Bool.and_true, Bool.and_self, Bool.true_and, if_true, if_false, reduceIte, Bool.false_eq_true, decide_true, decide_false, beq_self_eq_true, Bool.not_true, Bool.not_false, true_and, and_true, and_self, List.append_assoc, List.nil_append, List.cons_append, Int.toNat_natCast, ck, Int.cast_ofNat_Int, Int.reduceToNat, bne_self_eq_false, Bool.or_false, Bool.false_or, Bool.false_and, Bool.and_false, Bool.or_true, Bool.true_or]
end Go.Proofs.YtjceimcepogkaaaGreatDoor.Ev
/- strings.Builder, of a builder that the call made itself: what WriteString writes and what it leaves, what String answers (the rows of names are printed by mklays.py). -/
namespace Go.Proofs.YtjceimcepogkaaaGreatDoor.Ev
open Go
attribute [local congr] ob_congr sq_congr cd_congr ite_congr1 iter_congr it1_congr jumps_congr
set_option maxRecDepth 100000
set_option linter.unusedSimpArgs false
set_option linter.unusedVariables false
open Go.Shelf Go.RowKit Go.Sort Go.Lib
def wbRen : Go.Shelf.Ren := ⟨fun x => if x = 166 then 102 else if x = 240 then 129 else if x = 276 then 146 else if x = 169 then 103 else x,
  fun x => if x = 37 then 112 else if x = 70 then 111 else if x = 72 then 114 else if x = 75 then 117 else if x = 80 then 120 else if x = 164 then 144 else if x = 127 then 133 else x, fun x => x⟩
set_option maxRecDepth 1000000 in
theorem wsLays : Go.Proofs.Lays.n166 Tryz.prog wbRen where
  mixed := by rfl
  f166 := by rfl
  f240 := by rfl
  f276 := by rfl
  t0 := by rfl
  a0 := fun w => by rfl
  z0 := fun w => by rfl
  v0 := fun w => by rfl
  t3 := by rfl
  a3 := fun w => by rfl
  z3 := fun w => by rfl
  v3 := fun w => by rfl
  t4 := by rfl
  a4 := fun w => by rfl
  z4 := fun w => by rfl
  v4 := fun w => by rfl
  t9 := by rfl
  a9 := fun w => by rfl
  z9 := fun w => by rfl
  v9 := fun w => by rfl
  t20 := by rfl
  a20 := fun w => by rfl
  z20 := fun w => by rfl
  v20 := fun w => by rfl
  t37 := by rfl
  a37 := fun w => by rfl
  z37 := fun w => by rfl
  v37 := fun w => by rfl
  t70 := by rfl
  a70 := fun w => by rfl
  z70 := fun w => by rfl
  v70 := fun w => by rfl
  t72 := by rfl
  a72 := fun w => by rfl
  z72 := fun w => by rfl
  v72 := fun w => by rfl
  t75 := by rfl
  a75 := fun w => by rfl
  z75 := fun w => by rfl
  v75 := fun w => by rfl
  t164 := by rfl
  a164 := fun w => by rfl
  z164 := fun w => by rfl
  v164 := fun w => by rfl
set_option maxRecDepth 1000000 in
theorem stLays : Go.Proofs.Lays.n169 Tryz.prog wbRen where
  mixed := by rfl
  f169 := by rfl
  t0 := by rfl
  a0 := fun w => by rfl
  z0 := fun w => by rfl
  v0 := fun w => by rfl
  t3 := by rfl
  a3 := fun w => by rfl
  z3 := fun w => by rfl
  v3 := fun w => by rfl
  t9 := by rfl
  a9 := fun w => by rfl
  z9 := fun w => by rfl
  v9 := fun w => by rfl
  t37 := by rfl
  a37 := fun w => by rfl
  z37 := fun w => by rfl
  v37 := fun w => by rfl
  t70 := by rfl
  a70 := fun w => by rfl
  z70 := fun w => by rfl
  v70 := fun w => by rfl
  t72 := by rfl
  a72 := fun w => by rfl
  z72 := fun w => by rfl
  v72 := fun w => by rfl
  t127 := by rfl
  a127 := fun w => by rfl
  z127 := fun w => by rfl
  v127 := fun w => by rfl
set_option maxRecDepth 1000000 in
theorem ccLays : Go.Proofs.Lays.n240 Tryz.prog wbRen where
  mixed := by rfl
  f240 := by rfl
  f276 := by rfl
  t0 := by rfl
  a0 := fun w => by rfl
  z0 := fun w => by rfl
  v0 := fun w => by rfl
  t4 := by rfl
  a4 := fun w => by rfl
  z4 := fun w => by rfl
  v4 := fun w => by rfl
  t9 := by rfl
  a9 := fun w => by rfl
  z9 := fun w => by rfl
  v9 := fun w => by rfl
  t20 := by rfl
  a20 := fun w => by rfl
  z20 := fun w => by rfl
  v20 := fun w => by rfl
  t70 := by rfl
  a70 := fun w => by rfl
  z70 := fun w => by rfl
  v70 := fun w => by rfl
  t72 := by rfl
  a72 := fun w => by rfl
  z72 := fun w => by rfl
  v72 := fun w => by rfl
  t164 := by rfl
  a164 := fun w => by rfl
  z164 := fun w => by rfl
  v164 := fun w => by rfl
set_option maxRecDepth 1000000 in
theorem wbX : Builder.Extra Tryz.prog wbRen where
  sizeBuilder := by rfl
  liesBuilder := by kernel_rfl
  t5 := by rfl
  a5 := fun w => by rfl
  z5 := fun w => by rfl
  v5 := fun w => by rfl
  infoByte := by rfl
  cellsByte := by kernel_rfl
  sizeByte := by rfl
  neB5 := by decide
abbrev bT : TypeId := 114
section
variable {P : Program} {w : World}
theorem run_astr (base : Nat) (t u ty e : TypeId) (i : TypeInfo) (ht : P.underlying t = some (.slice e)) (hu : P.underlying u = some .string) (hi : P.info? e = some i) (hz : i.zero = some (.int .u8 0)) (hsize : i.size = 1) (hby : i.bytes = 1)
    (v : Value) (n : Nat) (xs : List Value) (hown : w.ownsRow base e 1 v n xs) (s : ByteArray) (h63 : n + s.size ≤ maxLen) (hbytes : n + s.size ≤ 140737488355328) (hbase : base ≤ w.heap.size) :
    ∃ v' w', (Builtin.append_ #[t, u] ty #[v, .string s]).run P w = .ok v' w' ∧ w'.ownsRow base e 1 v' (n + s.size) (xs ++ Lib.strCells s) ∧ w.grownBy w' v.ownBlock ∧ ∀ g, v'.ownBlock = some g → v.ownBlock = some g ∨ w.heap.size ≤ g := by
  obtain ⟨v', w', hr, h2, h3, h4⟩ := Lib.run_append_own_string (P := P) w base t u ty e i ht hu hi hz hsize hby v n xs hown s h63 hbytes hbase
  refine ⟨v', w', hr, h2, h3, fun g hg => ?_⟩
  have hsmall : n + s.size ≤ 9223372036854775807 := by simp only [maxLen] at h63; omega
  have hxl : xs.length = n := by simpa using hown.1
  rcases hown.2 with ⟨rfl, rfl⟩ | ⟨q, cap, cur, rfl, hbg, hq, hnc, hcm, hcs, htake⟩
  · by_cases hm : s.size = 0
    · rw [h4.2 ⟨rfl, hm⟩] at hg
      simp [Value.ownBlock] at hg
    · have hr2 := run_append_nil_string (P := P) w t u ty e i (.int .u8 0) ht hu hi hz s (by omega) (by omega) (by rw [hby]; omega)
      rw [hr] at hr2
      injection hr2 with e1 e2
      rw [e1] at hg
      simp [Value.ownBlock] at hg
      exact .inr (by omega)
  · by_cases hroom : n + s.size ≤ cap
    · have hr2 := Lib.run_append_room_string (P := P) w t u ty e i ht hu hi hsize q n cap cur hq s hroom (by rw [hcs]; omega)
      rw [hr] at hr2
      injection hr2 with e1 e2
      rw [e1] at hg
      exact .inl hg
    · have holds : ∀ j u, xs[j]? = some u → w.cell? ((⟨q, 0, none⟩ : Addr).add j) = some u := hown.cells (g := q) rfl
      have hr2 := Lib.run_append_grow_string (P := P) w t u ty e i (.int .u8 0) ht hu hi hz ⟨q, 0, none⟩ n cap xs (by rw [hsize]; simpa using hxl) holds s (by omega) (by omega) (by rw [hby]; exact growslice_fits (by omega) (by omega))
      rw [hr] at hr2
      injection hr2 with e1 e2
      rw [e1] at hg
      simp [Value.ownBlock] at hg
      exact .inr (by omega)
theorem wpList_astr {ops : Array Oper} {rest : List Oper} {o : Oper} {a : Act} {Q : Exit → Act → World → Prop} (hgd : o.guard = none) (sl x : Operand) (t u : TypeId)
    (ho : o.op = .call { callee := .builtin .append, args := #[sl, x], argTypes := #[t, u] })
    (base : Nat) (e : TypeId) (i : TypeInfo) (ht : P.underlying t = some (.slice e)) (hu : P.underlying u = some .string) (hi : P.info? e = some i) (hz : i.zero = some (.int .u8 0)) (hsize : i.size = 1) (hby : i.bytes = 1)
    (v : Value) (n : Nat) (xs : List Value) (hs : a.eval sl = v) (hown : w.ownsRow base e 1 v n xs) (s : ByteArray) (hx : a.eval x = .string s) (h63 : n + s.size ≤ maxLen) (hbytes : n + s.size ≤ 140737488355328) (hbase : base ≤ w.heap.size)
    (h : ∀ v' w', w'.ownsRow base e 1 v' (n + s.size) (xs ++ Lib.strCells s) → w.grownBy w' v.ownBlock → (∀ g, v'.ownBlock = some g → v.ownBlock = some g ∨ w.heap.size ≤ g) → wpList P ops Q rest (a.put o.dst v') w') : wpList P ops Q (o :: rest) a w := by
  refine wpList_plain hgd fun K hK => ?_
  obtain ⟨v', w', hr, h2, h3, h4⟩ := run_astr (P := P) base t u o.type e i ht hu hi hz hsize hby v n xs hown s h63 hbytes hbase
  unfold Oper.wp execOp
  simp only [ho, resolve, invoke, builtin, Sem.run_bind, Sem.run_pure, Result.andThen_ok, List.map_toArray, List.map_cons, List.map_nil, hs, hx, hr]
  exact hK _ _ (h v' w' h2 h3 h4)
end
abbrev pV (g : Nat) : Value := .pointer (some ⟨g, 0, none⟩)
theorem setCell_at {w : World} {g j : Nat} {cs : Array Value} {T : TypeId} {fr : Nat × Nat} (v : Value) (h : w.heap[g]? = some (.cells cs T fr)) : (w.setCell ⟨g, j, none⟩ v).heap[g]? = some (.cells (cs.setIfInBounds j v) T fr) := by
  have hlt := lt_of_heap h
  unfold World.setCell
  simp [Array.getElem?_modify, h]
theorem setCell_out {w : World} {g j k : Nat} (v : Value) (h : k ≠ g) : (w.setCell ⟨g, j, none⟩ v).heap[k]? = w.heap[k]? := Go.RowKit.Below.heap_setCell _ _ _ _ (fun e => h e)
theorem cc_calls {g : Nat} {p v : Value} {w : World} (hg : w.heap[g]? = some (.cells #[p, v] bT (0, 0))) (hp : p = .pointer none ∨ p = pV g) :
    Calls Tryz.prog 129 #[pV g] w fun e w1 => e = .returned (.tuple #[]) ∧ w1.heap[g]? = some (.cells #[pV g, v] bT (0, 0)) ∧ (∀ k, k ≠ g → w1.heap[k]? = w.heap[k]?) ∧ w1.heap.size = w.heap.size ∧ w1.os = w.os ∧ w1.tape = w.tape ∧ w1.output = w.output := by
  have c0 : w.cell? ⟨g, 0, none⟩ = some p := by rw [Lib.cell_of_heap hg]; rfl
  rcases hp with rfl | rfl
  · refine Calls.mono (Any.Builder_copyCheck_fresh ccLays wbX.toX72 g w c0 (by simp [World.shape?, hg]; rfl) (Lib.frozen_of_heap hg 0)) ?_
    rintro e w' ⟨rfl, rfl⟩
    refine ⟨rfl, (setCell_at _ hg).trans rfl, fun k hk => setCell_out _ hk, ?_, rfl, rfl, rfl⟩
    simp
  · refine Calls.mono (Any.Builder_copyCheck_used ccLays wbX.toX72 g w c0) ?_
    rintro e w' ⟨rfl, rfl⟩
    exact ⟨rfl, hg, fun _ _ => rfl, rfl, rfl, rfl, rfl⟩
set_option maxHeartbeats 2000000 in
theorem ws_calls {B g n : Nat} {p v : Value} {xs : List Value} {w : World} (hB : B ≤ g) (hg : w.heap[g]? = some (.cells #[p, v] bT (0, 0))) (hp : p = .pointer none ∨ p = pV g) (hown : w.ownsRow B 5 1 v n xs) (s : ByteArray) (hlen : n + s.size ≤ 1000000) (hBw : B ≤ w.heap.size) :
    Calls Tryz.prog 102 #[pV g, .string s] w fun e w' => e = .returned (.tuple #[.int .i64 s.size, .nilIface]) ∧ ∃ v', w'.heap[g]? = some (.cells #[pV g, v'] bT (0, 0)) ∧ w'.ownsRow B 5 1 v' (n + s.size) (xs ++ Lib.strCells s) ∧
      (∀ k, k < w.heap.size → k ≠ g → v.ownBlock ≠ some k → w'.heap[k]? = w.heap[k]?) ∧ (∀ k, v'.ownBlock = some k → v.ownBlock = some k ∨ w.heap.size ≤ k) ∧ w.heap.size ≤ w'.heap.size ∧ w'.os = w.os ∧ w'.tape = w.tape ∧ w'.output = w.output := by
  obtain ⟨i0, hi, hz0, hz1, hz2⟩ := info_parts wbX.infoByte
  have hi : Tryz.prog.info? 5 = some i0 := hi
  have hc := cc_calls hg hp
  go_enter Tryz.func102, Tryz.ntmps102
  go_wp2_with (go_at_call 129; refine hc.mono ?_)
  rintro e w1 ⟨rfl, hg1, hk1, hs1, ho1, ht1, hu1⟩
  have hne := Lib.ownBlock_ne hown hg (by decide)
  have hown1 : w1.ownsRow B 5 1 v n xs := ownsRow_same hown fun k hk => hk1 k (fun e => hne (e ▸ hk))
  have c0 : w1.cell? ⟨g, 0, none⟩ = some (pV g) := by rw [Lib.cell_of_heap hg1]; rfl
  have c1 : w1.cell? ⟨g, 1, none⟩ = some v := by rw [Lib.cell_of_heap hg1]; rfl
  go_wp2_with (at_builtin; refine wpList_astr rfl _ _ 112 9 rfl B 5 i0 (by rfl) (by rfl) hi hz0 hz1 hz2 _ _ _ rfl hown1 s rfl ?c3 ?c4 ?c5 ?_)
  case c3 => unfold maxLen; omega
  case c4 => omega
  case c5 => omega
  intro v' w2 hown' hgrow hblk
  have hlt1 := lt_of_heap hg1
  have hne1 := Lib.ownBlock_ne hown1 hg1 (by decide)
  have hb2 : w2.heap[g]? = some (.cells #[pV g, v] bT (0, 0)) := by
    rw [hgrow.block g hlt1 (fun e => hne1 e.symm)]
    exact hg1
  have d0 : w2.cell? ⟨g, 0, none⟩ = some (pV g) := by rw [Lib.cell_of_heap hb2]; rfl
  have d1 : w2.cell? ⟨g, 1, none⟩ = some v := by rw [Lib.cell_of_heap hb2]; rfl
  have f1 : w2.frozen? ⟨g, 1, none⟩ = false := Lib.frozen_of_heap hb2 1
  have hne2 := Lib.ownBlock_ne hown' hb2 (by decide)
  obtain ⟨ao, n', cap, rfl⟩ : ∃ ao n' cap, v' = .slice ao n' cap := by
    rcases hown'.2 with ⟨hv, _⟩ | ⟨g, cap, cur, hv, _⟩
    · exact ⟨_, _, _, hv⟩
    · exact ⟨_, _, _, hv⟩
  go_wp2
  go_ret2
  refine ⟨rfl, _, (setCell_at _ hb2).trans rfl, ownsRow_same hown' fun k hk => setCell_out _ (fun e => hne2 (e ▸ hk)), fun k hk hkg hkv => ?_, fun k hk => ?_, ?_, ?_, ?_, ?_⟩
  · rw [setCell_out _ hkg, hgrow.block k (by omega) (fun e => hkv e.symm), hk1 k hkg]
  · rcases hblk k hk with h | h
    · exact .inl h
    · exact .inr (by omega)
  · have := hgrow.size; simp; omega
  · exact hgrow.os.trans ho1
  · exact hgrow.tape.trans ht1
  · exact hgrow.output.trans hu1
theorem st_calls {B g : Nat} {p v : Value} {l : List UInt8} {w : World} (hB : B ≤ g) (hg : w.heap[g]? = some (.cells #[p, v] bT (0, 0))) (hp : p = .pointer none ∨ p = pV g) (hown : w.ownsRow B 5 1 v l.length (Lib.byteCells l)) (hBw : B ≤ w.heap.size) :
    Calls Tryz.prog 103 #[pV g] w fun e w' => e = .returned (.string ⟨l.toArray⟩) ∧ Go.RowKit.Below B w w' := by
  have hne := Lib.ownBlock_ne hown hg (by decide)
  have hb : ∀ q, p = q → Lib.BuilderAt bT 5 B g q (Lib.byteCells l) w := fun q e => ⟨hB, v, by rw [← e]; exact hg, by rw [Lib.byteCells_length]; exact hown, hne⟩
  refine Any.Builder_String_any stLays wbX B g l w ?_ hBw
  rcases hp with h | h
  · exact .inl (hb _ h)
  · exact .inr (hb _ h)
end Go.Proofs.YtjceimcepogkaaaGreatDoor.Ev
/- costs.Text, by hand: each link that is up and its cost, written one behind the other. -/
namespace Go.Proofs.YtjceimcepogkaaaGreatDoor.Ev
open Go
attribute [local congr] ob_congr sq_congr cd_congr ite_congr1 iter_congr it1_congr jumps_congr
set_option maxRecDepth 100000
set_option linter.unusedSimpArgs false
set_option linter.unusedVariables false
open Go.Shelf Go.RowKit Go.Sort Go.Lib
/-- A builder of one's own. -/
structure Bd (B : Nat) (w : World) (g : Nat) (l : List UInt8) (p v : Value) : Prop where
  lo : B ≤ g
  cell : w.heap[g]? = some (.cells #[p, v] bT (0, 0))
  ptr : p = .pointer none ∨ p = pV g
  row : w.ownsRow B 5 1 v l.length (Lib.byteCells l)
theorem Bd.fr {B g : Nat} {w w' : World} {φ φ' : Nat → Option Nat} {l : List UInt8} {p v : Value} (h : Bd B w g l p v) (f : Fr φ w φ' w') (h1 : ∀ k, φ k ≠ some g) (h2 : ∀ k g', v.ownBlock = some g' → φ k ≠ some g') :
    Bd B w' g l p v ∧ (∀ k, φ' k ≠ some g) ∧ ∀ k g', v.ownBlock = some g' → φ' k ≠ some g' := by
  have hlt := lt_of_heap h.cell
  refine ⟨⟨h.lo, (f.keep g hlt h1).trans h.cell, h.ptr, ownsRow_same h.row fun g' hg' => f.keep g' (ownsRow_lt h.row hg').2 fun k => h2 k g' hg'⟩, fun k e' => ?_, fun k g' hg' e' => ?_⟩
  · rcases f.src k g e' with ⟨k', q⟩ | q
    · exact h1 k' q
    · omega
  · rcases f.src k g' e' with ⟨k', q⟩ | q
    · exact h2 k' g' hg' q
    · have := (ownsRow_lt h.row hg').2; omega
/-- A state, and beside it a builder. -/
structure HB (B : Nat) (W : World) (n g : Nat) (l : List UInt8) (s : St) (a : Act) (w : World) : Prop where
  ex : ∃ φ p v, Rel B w φ s a w φ ∧ Bd B w g l p v ∧ (∀ k, φ k ≠ some g) ∧ ∀ k g', v.ownBlock = some g' → φ k ≠ some g'
  size : a.tmps.size = n
  bel : Below B W w
theorem Rel.kept {B : Nat} {s : St} {a : Act} {w w' : World} {φ : Nat → Option Nat} (r : Rel B w φ s a w φ) (hk : ∀ q, q < w.heap.size → (q < B ∨ ∃ k, φ k = some q) → w'.heap[q]? = w.heap[q]?) (hs : w.heap.size ≤ w'.heap.size) : Rel B w' φ s a w' φ where
  dfr := r.dfr
  tm i := (r.tm i).keep ⟨fun k _ => ⟨rfl, .inl rfl⟩, fun q h1 h2 => hk q h2 (.inl h1), fun k q _ _ h3 h4 => hk q h4 (.inr ⟨k, h3⟩)⟩
  bel := Below.refl _ _
  base := Nat.le_trans r.base hs
  box k x h := by
    obtain ⟨h1, g, T, h2, h3⟩ := r.box k x h
    have e := (hk g (lt_of_heap h3) (.inr ⟨k, h2⟩)).trans h3
    exact ⟨h1, g, T, h2, by rw [tl_re e]; exact e⟩
  inj := r.inj
  lo k g h := ⟨(r.lo k g h).1, Nat.lt_of_lt_of_le (r.lo k g h).2 hs⟩
  fr := Fr.refl _ _
  pin := fun _ _ _ _ h _ => h
section
variable {B : Nat} {W : World} {n g : Nat} {l : List UInt8} {s s' sn : St} {a : Act} {w : World}
theorem HB.of {φ φ' : Nat → Option Nat} {w' : World} {a' : Act} {p v : Value} (r : Rel B w φ s' a' w' φ') (hn : a'.tmps.size = n) (hb : Below B W w) (hh : Bd B w g l p v) (h1 : ∀ k, φ k ≠ some g) (h2 : ∀ k g', v.ownBlock = some g' → φ k ≠ some g') : HB B W n g l s' a' w' := by
  obtain ⟨q1, q2, q3⟩ := hh.fr r.fr h1 h2
  exact ⟨⟨φ', p, v, r.re, q1, q2, q3⟩, hn, hb.trans r.bel⟩
theorem HB.forget (h : HB B W n g l s a w) {b : List Nat × List Nat} (hb : s.forget b = some s') : HB B W n g l s' a w := by
  obtain ⟨⟨φ, p, v, r, hh, h1, h2⟩, hn, hb'⟩ := h
  exact ⟨⟨φ, p, v, forget_sound r hb, hh, h1, h2⟩, hn, hb'⟩
theorem HB.slot (h : HB B W n g l s a w) {i : Nat} {x : D} (hi : s.t i = .d x) : a.eval (.tmp i) = x.val := by
  obtain ⟨⟨φ, p, v, r, _⟩, _⟩ := h
  have := r.tm i
  rw [hi] at this
  exact this.2
theorem HB.piece (h : HB B W n g l s a w) {call : Nat → List V → Option V} (hcall : ∀ g l r, call g l = some r → ∀ w', Below B W w' → CallX Tryz.prog w' g l r) {fn lf : Nat} {c : Code} {b : List Nat × List Nat}
    (hok : okCode Tryz.prog (env.dp fn) n c = true) (hev : fgt b (evC env call fn lf c s) = some (.normal, s')) {Q : Exit → Act → World → Prop} (hQ : ∀ a' w', HB B W n g l s' a' w' → Q .normal a' w') : c.wp Tryz.prog Q a w := by
  obtain ⟨⟨φ, p, v, r, hh, h1, h2⟩, hn, hb⟩ := h
  unfold fgt at hev
  rcases sq_some hev with ⟨s1, h3, h4⟩ | ⟨_, hne⟩
  · obtain ⟨s2, h5, h6⟩ := ob_eq_some h4
    cases h6
    exact (evC_sound (w0 := w) (φ0 := φ) env_ok (fun g l r hg w' hw => hcall g l r hg w' (hb.trans hw)) fn lf c hok).1 s .normal s1 h3 Q a w φ r hn fun a' w' φ' r' hn' => hQ a' w' (HB.of (forget_sound r' h5) hn' hb hh h1 h2)
  · exact absurd rfl hne
/-- The first operations of a region, in the order of the text. -/
theorem ops_firstJ {w0 : World} {φ0 : Nat → Option Nat} {call : Nat → List V → Option V} (hcall : ∀ g l r, call g l = some r → ∀ w', Below B w0 w' → CallX Tryz.prog w' g l r) {ops : Array Oper} (hdst : ∀ (j : Nat) (o : Oper) (d : Nat), ops[j]? = some o → o.dst = some d → d < n)
    {Q : Exit → Act → World → Prop} {R2 : List Nat} (hQ : ∀ a' w' φ', Rel B w0 φ0 sn a' w' φ' → a'.tmps.size = n → wpOps Tryz.prog ops Q R2 a' w') :
    ∀ (R : List Nat) (s : St) (a : Act) (w : World) (φ : Nat → Option Nat), Rel B w0 φ0 s a w φ → a.tmps.size = n → evIdx env call ops R s = some sn → wpOps Tryz.prog ops Q (R ++ R2) a w
  | [], s, a, w, φ, hr, hn, hev => by simp only [evIdx] at hev; cases hev; exact hQ a w φ hr hn
  | i :: R, s, a, w, φ, hr, hn, hev => by
    simp only [evIdx] at hev
    simp only [List.cons_append, wpOps]
    cases hi : ops[i]? with
    | none => rw [hi] at hev; exact ops_firstJ hcall hdst hQ R s a w φ hr hn hev
    | some o =>
      rw [hi] at hev
      simp only at hev ⊢
      obtain ⟨s1, h1, h2⟩ := ob_eq_some hev
      have hsound := evG_sound (o := o) (ops := ops) (Q := Q) (K := wpOps Tryz.prog ops Q (R ++ R2)) env_ok hcall hr (fun d hd => by rw [hn]; exact hdst i o d hi hd) (fun j d hjd => by
        rw [hn]
        cases hj : ops.toList[j]? with
        | none => rw [hj] at hjd; cases hjd
        | some o => rw [hj] at hjd; exact hdst j o d (by simpa using hj) hjd) h1 (fun a' w' φ' hr' hn' => ops_firstJ hcall hdst hQ R s1 a' w' φ' hr' (by rw [hn', hn]) h2)
      split at hsound
      · rename_i hw; rw [if_pos hw]; exact .inl hsound
      · rename_i hw; rw [if_neg hw]; exact hsound
theorem wsFn : ∃ fn, Tryz.prog.funcs[102]? = some fn ∧ fn.body.isNone = false ∧ (fn.name == "runtime.NumGoroutine") = false := ⟨Tryz.f102, Tryz.func102, by kernel_rfl, by kernel_rfl⟩
abbrev wsV (b : ByteArray) : V := .tcons (.d (.s (.int .i64 b.size))) (.tcons (.d (.s .nilIface)) .tnil)
/-- A region whose last operation writes a text to the builder. -/
theorem HB.write (h : HB B W n g l s a w) {call : Nat → List V → Option V} (hcall : ∀ g l r, call g l = some r → ∀ w', Below B W w' → CallX Tryz.prog w' g l r) {ops : Array Oper} {id y t : Nat} {x : Operand} {R : List Nat} {k : Nat} {ts : Array Nat} {t2 : Nat} {p2 : String} {a2 : Array Edge}
    (hdst : ∀ (j : Nat) (o : Oper) (d : Nat), ops[j]? = some o → o.dst = some d → d < n) (hR : List.range ops.size = R ++ [k]) (hev : evIdx env call ops R s = some sn)
    (ho : ops[k]? = some ⟨some y, .call ⟨.value (.func 102), #[.tmp 3, x], ts⟩, t2, p2, a2, none⟩) (h3 : sn.t 3 = .d (.s (pV g))) {b : ByteArray} (hx : opd env t sn x = some (.d (.s (.string b)))) (hl : l.length + b.size ≤ 1000000)
    {Q : Exit → Act → World → Prop} (hQ : ∀ a' w', HB B W n g (l ++ b.data.toList) (sn.app (some y) (wsV b) none) a' w' → Q .normal a' w') : (Code.region id ops false).wp Tryz.prog Q a w := by
  obtain ⟨⟨φ, p, v, r, hh, c1, c2⟩, hn, hb⟩ := h
  refine wp_region ?_
  rw [hR]
  refine ops_firstJ (w0 := w) (φ0 := φ) (fun g l r hg w' hw => hcall g l r hg w' (hb.trans hw)) hdst (fun a9 w9 φ9 r9 hn9 => ?_) R s a w φ r hn hev
  obtain ⟨hh9, d1, d2⟩ := hh.fr r9.fr c1 c2
  have hy : y < n := hdst k _ y ho rfl
  refine wpOps_cons ho rfl ?_
  obtain ⟨fn, hfn, hbody, hname⟩ := wsFn
  have e3 : a9.eval (.tmp 3) = pV g := by
    have := r9.tm 3
    rw [h3] at this
    exact this.2
  have ex : a9.eval x = .string b := (opd_sound r9 hx).2
  unfold Oper.wp
  have ex1 : (execOp a9.eval ⟨some y, .call ⟨.value (.func 102), #[.tmp 3, x], ts⟩, t2, p2, a2, none⟩).run Tryz.prog w9 = .ok (.enter 102 #[pV g, .string b]) w9 := by
    have ef : a9.eval (.func 102) = .func (.func 102) #[] #[] := rfl
    have em : #[Operand.tmp 3, x].map a9.eval = #[pV g, .string b] := by simp [e3, ex]
    simp only [execOp, resolve, ef, em, Deferred.ofValue, invoke, callFunc, Sem.run_bind, Sem.run_pure, Result.andThen_ok, run_program, hfn, hname, hbody, Bool.false_eq_true, if_false, Array.empty_append]
    rfl
  rw [ex1, Oper.upon_enter]
  have hw := ws_calls hh9.lo hh9.cell hh9.ptr hh9.row b hl r9.base
  refine hw.mono fun en w' hq => ?_
  obtain ⟨rfl, v', q1, q2, q3, q4, q5, q6, q7, q8⟩ := hq
  have r2 := r9.re
  have hkeep : ∀ q, q < w9.heap.size → (q < B ∨ ∃ k, φ9 k = some q) → w'.heap[q]? = w9.heap[q]? := fun q hq ho => by
    refine q3 q hq (fun e => ?_) (fun e => ?_)
    · subst e
      rcases ho with ho | ⟨k', ho⟩
      · have := hh9.lo; omega
      · exact d1 k' ho
    · rcases ho with ho | ⟨k', ho⟩
      · have := (ownsRow_lt hh9.row e).1; omega
      · exact d2 k' q e ho
  have r3 := Rel.kept r2 hkeep q5
  have bw : Below B w9 w' := ⟨q6, q7, q8, q5, fun q hq => hkeep q (Nat.lt_of_lt_of_le hq r9.base) (.inl hq), fun e => by cases e⟩
  have hd' : Bd B w' g (l ++ b.data.toList) (pV g) v' := by
    refine ⟨hh9.lo, q1, .inr rfl, ?_⟩
    have e1 : (l ++ b.data.toList).length = l.length + b.size := by rw [List.length_append]; rfl
    have e2 : Lib.byteCells (l ++ b.data.toList) = Lib.byteCells l ++ Lib.strCells b := by unfold Lib.byteCells Lib.strCells; rw [List.map_append]
    rw [e1, e2]; exact q2
  have f2 : ∀ k' g', v'.ownBlock = some g' → φ9 k' ≠ some g' := fun k' g' hg' e => by
    rcases q4 g' hg' with h | h
    · exact d2 k' g' h e
    · have := (r9.lo k' g' e).2; omega
  obtain ⟨φ4, r4⟩ := r3.app (some y) (v := wsV b) (b := none) (u := .tuple #[.int .i64 b.size, .nilIface]) (w' := w') (φ' := φ9) (stay ⟨_, rfl, _, _, rfl, ⟨rfl, rfl⟩, _, _, rfl, ⟨rfl, rfl⟩, rfl⟩) (fun k hk => by cases hk; omega)
  exact hQ _ _ (HB.of r4 (by rw [put_size]; exact hn9) ((hb.trans r9.bel).trans bw) hd' d1 f2)
end
noncomputable def ctC : Code := match Tryz.f54.body with
  | some (.seq _ (.seq _ (.seq (.seq _ (.block _ (.loop c))) _))) => c
  | _ => .skip
section
variable (up : Int) (c : Nat → Int) (g : Nat)
abbrev T0 (k : Nat) : St := ⟨tab .junk [(1, .ptr 1 (shC) [] (shC)), (3, .d (.s (pV g))), (7, .sl (.tg 7) cI (ints (listTo up 16))), (8, .d (.s (.int .i64 ((listTo up 16).length)))), (9, .d (.s (.int .i64 (k))))], tab none [(1, some (.box (costsD up c))), (7, some .row)]⟩
abbrev T3 (k : Nat) (b : Bool) : St := ⟨tab .junk [(1, .ptr 1 (shC) [] (shC)), (3, .d (.s (pV g))), (7, .sl (.tg 7) cI (ints (listTo up 16))), (8, .d (.s (.int .i64 ((listTo up 16).length)))), (9, .d (.s (.int .i64 (k)))), (10, .d (.s (.bool (b))))], tab none [(1, some (.box (costsD up c))), (7, some .row)]⟩
abbrev T4 (k m : Nat) : St := ⟨tab .junk [(1, .ptr 1 (shC) [] (shC)), (3, .d (.s (pV g))), (5, .d (.s (.int .i64 ((m : Nat))))), (7, .sl (.tg 7) cI (ints (listTo up 16))), (8, .d (.s (.int .i64 ((listTo up 16).length)))), (9, .d (.s (.int .i64 (k))))], tab none [(1, some (.box (costsD up c))), (7, some .row)]⟩
end
theorem JP_size {w : World} (h : JP w) : 1 ≤ w.heap.size := by
  unfold JP Lib.TabIs World.var? at h
  rw [gPow] at h
  simp only [Option.bind_some] at h
  rcases Nat.lt_or_ge 0 w.heap.size with h' | h'
  · exact h'
  · rw [Array.getElem?_eq_none h'] at h
    simp at h
theorem hcallU {B : Nat} {W : World} (hJ : JP W) (hB : 1 ≤ B) : ∀ g l r, evF Tryz.prog env xu 9 g l = some r → ∀ w', Below B W w' → CallX Tryz.prog w' g l r := fun g l r h w' hb => by
  have hJ' := JP_keep W w' B hB hb hJ
  exact .plain (noMut' rfl g l) (.inl (evF_soundJ env_ok fns_ok (J := JP) (B0 := 1) JP_keep xu_ok 9 g l r h w' hJ' (JP_size hJ')))
noncomputable def ctOps5 : Array Oper := match ctC with
  | .seq _ (.seq _ (.seq (.block _ (.seq _ (.seq (.region _ ops _) _))) _)) => ops
  | _ => #[]
noncomputable def ctOps6 : Array Oper := match ctC with
  | .seq _ (.seq _ (.seq (.block _ (.seq _ (.seq _ (.seq (.region _ ops _) _)))) _)) => ops
  | _ => #[]
noncomputable def ctOps7 : Array Oper := match ctC with
  | .seq _ (.seq _ (.seq (.block _ (.seq _ (.seq _ (.seq _ (.region _ ops _))))) _)) => ops
  | _ => #[]
theorem ctDst5 : ∀ (j : Nat) (o : Oper) (d : Nat), ctOps5[j]? = some o → o.dst = some d → d < 27 := by
  have h : okCode Tryz.prog (env.dp 54) 27 (.region 5 ctOps5 false) = true := by kernel_rfl
  exact (okRegion h).1
theorem ctDst6 : ∀ (j : Nat) (o : Oper) (d : Nat), ctOps6[j]? = some o → o.dst = some d → d < 27 := by
  have h : okCode Tryz.prog (env.dp 54) 27 (.region 6 ctOps6 false) = true := by kernel_rfl
  exact (okRegion h).1
theorem ctDst7 : ∀ (j : Nat) (o : Oper) (d : Nat), ctOps7[j]? = some o → o.dst = some d → d < 27 := by
  have h : okCode Tryz.prog (env.dp 54) 27 (.region 7 ctOps7 false) = true := by kernel_rfl
  exact (okRegion h).1
section
variable {up : Int} {c : Nat → Int} {g : Nat}
theorem ops5_ev (k m : Nat) (hm : m < 16) : evIdx env (evF Tryz.prog env xu 9) ctOps5 [0, 1, 2] (T4 up c g k m) = some (((T4 up c g k m).app (some 13) (.d (.s (.int .i64 ((m : Nat))))) none |>.app (some 14) (.d (.s (.int .i64 (withN 0 (m : Int))))) none) |>.app (some 15) (.d (.s (.string (textF (withN 0 (m : Int)))))) none) := by
  have t1 : evF Tryz.prog env xu (9) 100 [.d (.s (.int .i64 (0))), .d (.s (.int .i64 ((m : Nat))))] = some (.d (.s (.int .i64 (withN 0 m)))) := up_u (with_ev 7 0 m)
  have t3 : evF Tryz.prog env xu (9) 56 [.d (.s (.int .i64 (withN 0 (m : Int))))] = some (.d (.s (.string (textF (withN 0 (m : Int)))))) := up_u (text_ev 5 (inI_withN inI_zero _))
  simp (decide := true) only [evIdx, ctOps5, ctC, List.getElem?_toArray, t1, t3, Tryz.f54, rid, kl54_3, ↓sBp, sBq, List.all_cons, List.all_nil, List.map_cons, List.map_nil, D.shape, Sh.sub, Sh.size, List.getElem?_cons_zero, List.getElem?_cons_succ, Option.bind_some, Option.bind_none, Option.getD_some, Option.getD_none, V.keysIn, V.kill, V.has, decide_eq_true_eq, beq_iff_eq, bne_iff_ne, ne_eq, Bool.not_eq_true', Bool.and_true, Bool.and_self, Bool.true_and, if_true, if_false, reduceIte, Bool.false_eq_true, decide_true, decide_false, beq_self_eq_true, Bool.not_true, Bool.not_false, true_and, and_true, and_self, List.append_assoc, List.nil_append, List.cons_append, Int.toNat_natCast, ck, Int.cast_ofNat_Int, Int.reduceToNat, bne_self_eq_false, Bool.or_false, Bool.false_or, Bool.false_and, Bool.and_false, Bool.or_true, Bool.true_or]
theorem ops6_ev (k m : Nat) (hm : m < 16) (h0 : 0 ≤ c m) (h1 : c m < 4294967296) : evIdx env (evF Tryz.prog env xu 9) ctOps6 [0, 1, 2, 3, 4, 5] (T4 up c g k m) =
    some (((((((T4 up c g k m).app (some 17) (.d (.s (.int .i64 ((m : Nat))))) none).app (some 18) (.ptr 1 shC [1] (.arr 16 cU)) none).app (some 19) (.ptr 1 shC [1, m] cU) none).app (some 20) (.d (.s (.int .u32 (c m)))) none).app (some 21) (.d (.s (.int .u64 (c m)))) none).app (some 22) (.d (.s (.string (decB (c m))))) none) := by
  have t5 := fmtU_ev 8 (c m) h0 h1
  have w1 : IntKind.u64.wrap (c m) = c m := IntWalk.u64_in _ (by omega)
  have hm1 : (m : Int) < 16 := by omega
  have hm0 : (0 : Int) ≤ m := by omega
  simp (decide := true) only [evIdx, ctOps6, ctC, List.getElem?_toArray, t5, w1, hm1, hm0, Tryz.f54, rid, kl54_3, ↓sBp, sBq, List.all_cons, List.all_nil, List.map_cons, List.map_nil, D.shape, Sh.sub, Sh.size, List.getElem?_cons_zero, List.getElem?_cons_succ, Option.bind_some, Option.bind_none, Option.getD_some, Option.getD_none, V.keysIn, V.kill, V.has, decide_eq_true_eq, beq_iff_eq, bne_iff_ne, ne_eq, Bool.not_eq_true', Bool.and_true, Bool.and_self, Bool.true_and, if_true, if_false, reduceIte, Bool.false_eq_true, decide_true, decide_false, beq_self_eq_true, Bool.not_true, Bool.not_false, true_and, and_true, and_self, List.append_assoc, List.nil_append, List.cons_append, Int.toNat_natCast, ck, Int.cast_ofNat_Int, Int.reduceToNat, bne_self_eq_false, Bool.or_false, Bool.false_or, Bool.false_and, Bool.and_false, Bool.or_true, Bool.true_or]
abbrev mk5 : List Nat × List Nat := ([1, 3, 5, 7, 8, 9], [1, 7])
theorem round_ct {B : Nat} {W : World} {l : List UInt8} (hcall : ∀ g l r, evF Tryz.prog env xu 9 g l = some r → ∀ w', Below B W w' → CallX Tryz.prog w' g l r) {k m : Nat} (hk : k < (listTo up 16).length) (hm : m < 16) (he : (listTo up 16)[k]? = some (m : Int)) (h0 : 0 ≤ c m) (h1 : c m < 4294967296) (hl : l.length ≤ 1000)
    {a : Act} {w : World} (h : HB B W 27 g l (T0 up c g k) a w) {Q : Exit → Act → World → Prop} (hQ : ∀ a' w', HB B W 27 g (l ++ (cpc c m).data.toList) (T0 up c g (k + 1)) a' w' → Q .normal a' w') : ctC.wp Tryz.prog Q a w := by
  have hk1 : (k : Int) < ((listTo up 16).length : Int) := by omega
  have hk0 : (0 : Int) ≤ k := by omega
  have hlen := listTo_len up 16
  have hkw := wrap_succ k (by omega)
  have hi := ints_get he
  have z1 := textF_size (withN 0 (m : Int))
  have z2 := decB_size h1
  have z3 : (⟨#[32]⟩ : ByteArray).size = 1 := rfl
  have y1 : (textF (withN 0 (m : Int))).data.toList.length = (textF (withN 0 (m : Int))).size := rfl
  have y2 : (decB (c m)).data.toList.length = (decB (c m)).size := rfl
  refine wp_seq ?_
  refine h.piece (b := ([1, 3, 7, 8, 9, 10], [1, 7])) (s' := T3 up c g k true) (fn := 54) (lf := loopFuel) hcall (by kernel_rfl) ?e1 (fun a w h => ?_)
  case e1 => simp (decide := true) only [hk1, Tryz.f54, rid, kl54_3, ↓sBp, sBq, List.all_cons, List.all_nil, List.map_cons, List.map_nil, D.shape, Sh.sub, Sh.size, List.getElem?_cons_zero, List.getElem?_cons_succ, Option.bind_some, Option.bind_none, Option.getD_some, Option.getD_none, V.keysIn, V.kill, V.has, decide_eq_true_eq, beq_iff_eq, bne_iff_ne, ne_eq, Bool.not_eq_true', Bool.and_true, Bool.and_self, Bool.true_and, if_true, if_false, reduceIte, Bool.false_eq_true, decide_true, decide_false, beq_self_eq_true, Bool.not_true, Bool.not_false, true_and, and_true, and_self, List.append_assoc, List.nil_append, List.cons_append, Int.toNat_natCast, ck, Int.cast_ofNat_Int, Int.reduceToNat, bne_self_eq_false, Bool.or_false, Bool.false_or, Bool.false_and, Bool.and_false, Bool.or_true, Bool.true_or]
  refine wp_seq ?_
  refine wp_cond_true (h.slot (i := 10) rfl) (wp_skip ?_)
  refine wp_seq ?_
  refine wp_block ?_
  refine wp_seq ?_
  refine h.piece (b := mk5) (s' := T4 up c g k m) (fn := 54) (lf := loopFuel) hcall (by kernel_rfl) ?e2 (fun a w h => ?_)
  case e2 => simp (decide := true) only [hk1, hk0, hi, Tryz.f54, rid, kl54_3, ↓sBp, sBq, List.all_cons, List.all_nil, List.map_cons, List.map_nil, D.shape, Sh.sub, Sh.size, List.getElem?_cons_zero, List.getElem?_cons_succ, Option.bind_some, Option.bind_none, Option.getD_some, Option.getD_none, V.keysIn, V.kill, V.has, decide_eq_true_eq, beq_iff_eq, bne_iff_ne, ne_eq, Bool.not_eq_true', Bool.and_true, Bool.and_self, Bool.true_and, if_true, if_false, reduceIte, Bool.false_eq_true, decide_true, decide_false, beq_self_eq_true, Bool.not_true, Bool.not_false, true_and, and_true, and_self, List.append_assoc, List.nil_append, List.cons_append, Int.toNat_natCast, ck, Int.cast_ofNat_Int, Int.reduceToNat, bne_self_eq_false, Bool.or_false, Bool.false_or, Bool.false_and, Bool.and_false, Bool.or_true, Bool.true_or]
  refine wp_seq ?_
  refine h.write hcall ctDst5 (t := 9) (R := [0, 1, 2]) (k := 3) rfl (ops5_ev k m hm) rfl rfl rfl (by omega) (fun a w h => ?_)
  have h := h.forget (b := mk5) (s' := T4 up c g k m) (by simp (decide := true) only [T4, Tryz.f54, rid, kl54_3, ↓sBp, sBq, List.all_cons, List.all_nil, List.map_cons, List.map_nil, D.shape, Sh.sub, Sh.size, List.getElem?_cons_zero, List.getElem?_cons_succ, Option.bind_some, Option.bind_none, Option.getD_some, Option.getD_none, V.keysIn, V.kill, V.has, decide_eq_true_eq, beq_iff_eq, bne_iff_ne, ne_eq, Bool.not_eq_true', Bool.and_true, Bool.and_self, Bool.true_and, if_true, if_false, reduceIte, Bool.false_eq_true, decide_true, decide_false, beq_self_eq_true, Bool.not_true, Bool.not_false, true_and, and_true, and_self, List.append_assoc, List.nil_append, List.cons_append, Int.toNat_natCast, ck, Int.cast_ofNat_Int, Int.reduceToNat, bne_self_eq_false, Bool.or_false, Bool.false_or, Bool.false_and, Bool.and_false, Bool.or_true, Bool.true_or])
  refine wp_seq ?_
  refine h.write hcall ctDst6 (t := 9) (R := [0, 1, 2, 3, 4, 5]) (k := 6) rfl (ops6_ev k m hm h0 h1) rfl rfl rfl (by rw [List.length_append]; omega) (fun a w h => ?_)
  have h := h.forget (b := mk5) (s' := T4 up c g k m) (by simp (decide := true) only [T4, Tryz.f54, rid, kl54_3, ↓sBp, sBq, List.all_cons, List.all_nil, List.map_cons, List.map_nil, D.shape, Sh.sub, Sh.size, List.getElem?_cons_zero, List.getElem?_cons_succ, Option.bind_some, Option.bind_none, Option.getD_some, Option.getD_none, V.keysIn, V.kill, V.has, decide_eq_true_eq, beq_iff_eq, bne_iff_ne, ne_eq, Bool.not_eq_true', Bool.and_true, Bool.and_self, Bool.true_and, if_true, if_false, reduceIte, Bool.false_eq_true, decide_true, decide_false, beq_self_eq_true, Bool.not_true, Bool.not_false, true_and, and_true, and_self, List.append_assoc, List.nil_append, List.cons_append, Int.toNat_natCast, ck, Int.cast_ofNat_Int, Int.reduceToNat, bne_self_eq_false, Bool.or_false, Bool.false_or, Bool.false_and, Bool.and_false, Bool.or_true, Bool.true_or])
  refine h.write hcall ctDst7 (t := 9) (R := []) (k := 0) (b := ⟨#[32]⟩) rfl rfl rfl rfl rfl (by rw [List.length_append, List.length_append]; omega) (fun a w h => ?_)
  have h := h.forget (b := mk5) (s' := T4 up c g k m) (by simp (decide := true) only [T4, Tryz.f54, rid, kl54_3, ↓sBp, sBq, List.all_cons, List.all_nil, List.map_cons, List.map_nil, D.shape, Sh.sub, Sh.size, List.getElem?_cons_zero, List.getElem?_cons_succ, Option.bind_some, Option.bind_none, Option.getD_some, Option.getD_none, V.keysIn, V.kill, V.has, decide_eq_true_eq, beq_iff_eq, bne_iff_ne, ne_eq, Bool.not_eq_true', Bool.and_true, Bool.and_self, Bool.true_and, if_true, if_false, reduceIte, Bool.false_eq_true, decide_true, decide_false, beq_self_eq_true, Bool.not_true, Bool.not_false, true_and, and_true, and_self, List.append_assoc, List.nil_append, List.cons_append, Int.toNat_natCast, ck, Int.cast_ofNat_Int, Int.reduceToNat, bne_self_eq_false, Bool.or_false, Bool.false_or, Bool.false_and, Bool.and_false, Bool.or_true, Bool.true_or])
  refine h.piece (b := ([1, 3, 7, 8, 9], [1, 7])) (s' := T0 up c g (k + 1)) (fn := 54) (lf := loopFuel) hcall (by kernel_rfl) ?e3 (fun a w h => ?_)
  case e3 => simp (decide := true) only [hkw, Tryz.f54, rid, kl54_3, ↓sBp, sBq, List.all_cons, List.all_nil, List.map_cons, List.map_nil, D.shape, Sh.sub, Sh.size, List.getElem?_cons_zero, List.getElem?_cons_succ, Option.bind_some, Option.bind_none, Option.getD_some, Option.getD_none, V.keysIn, V.kill, V.has, decide_eq_true_eq, beq_iff_eq, bne_iff_ne, ne_eq, Bool.not_eq_true', Bool.and_true, Bool.and_self, Bool.true_and, if_true, if_false, reduceIte, Bool.false_eq_true, decide_true, decide_false, beq_self_eq_true, Bool.not_true, Bool.not_false, true_and, and_true, and_self, List.append_assoc, List.nil_append, List.cons_append, Int.toNat_natCast, ck, Int.cast_ofNat_Int, Int.reduceToNat, bne_self_eq_false, Bool.or_false, Bool.false_or, Bool.false_and, Bool.and_false, Bool.or_true, Bool.true_or]
  refine hQ a w ?_
  have e : l ++ (cpc c m).data.toList = l ++ (textF (withN 0 (m : Int))).data.toList ++ (decB (c m)).data.toList ++ (⟨#[32]⟩ : ByteArray).data.toList := by
    unfold cpc
    rw [Int.toNat_natCast, ByteArray.data_append, ByteArray.data_append, Array.toList_append, Array.toList_append]
    simp only [List.append_assoc]
  rw [e]
  exact h
theorem rounds_ct {B : Nat} {W : World} (hd : UU c) (hcall : ∀ g l r, evF Tryz.prog env xu 9 g l = some r → ∀ w', Below B W w' → CallX Tryz.prog w' g l r) {Q : Exit → Act → World → Prop}
    (hQ : ∀ a w, HB B W 27 g (ctxt up c).data.toList (T3 up c g (listTo up 16).length false) a w → Q (.exit 0) a w) :
    ∀ (q k : Nat), k + q = (listTo up 16).length → ∀ a w, HB B W 27 g (ctTo c (listTo up 16) k).data.toList (T0 up c g k) a w → Code.rounds Tryz.prog ctC Q (q + 1) a w
  | 0, k, hk, a, w, h => by
    obtain rfl : k = (listTo up 16).length := by omega
    rw [rounds_succ]
    refine wp_seq ?_
    refine h.piece (b := ([1, 3, 7, 8, 9, 10], [1, 7])) (s' := T3 up c g (listTo up 16).length false) (fn := 54) (lf := loopFuel) hcall (by kernel_rfl) ?e1 (fun a w h => ?_)
    case e1 => simp (decide := true) only [Int.lt_irrefl, Tryz.f54, rid, kl54_3, ↓sBp, sBq, List.all_cons, List.all_nil, List.map_cons, List.map_nil, D.shape, Sh.sub, Sh.size, List.getElem?_cons_zero, List.getElem?_cons_succ, Option.bind_some, Option.bind_none, Option.getD_some, Option.getD_none, V.keysIn, V.kill, V.has, decide_eq_true_eq, beq_iff_eq, bne_iff_ne, ne_eq, Bool.not_eq_true', Bool.and_true, Bool.and_self, Bool.true_and, if_true, if_false, reduceIte, Bool.false_eq_true, decide_true, decide_false, beq_self_eq_true, Bool.not_true, Bool.not_false, true_and, and_true, and_self, List.append_assoc, List.nil_append, List.cons_append, Int.toNat_natCast, ck, Int.cast_ofNat_Int, Int.reduceToNat, bne_self_eq_false, Bool.or_false, Bool.false_or, Bool.false_and, Bool.and_false, Bool.or_true, Bool.true_or]
    refine wp_seq ?_
    exact wp_cond_false (h.slot (i := 10) rfl) (wp_exit (hQ a w h))
  | q + 1, k, hk, a, w, h => by
    rw [rounds_succ]
    obtain ⟨m, hm, hh, he⟩ := listTo_get up (show k < (listTo up 16).length by omega)
    obtain ⟨d0, d1⟩ := hd.at' m
    have hz := ctTo_size hd (listTo up 16) k
    have hz2 : (ctTo c (listTo up 16) k).data.toList.length = (ctTo c (listTo up 16) k).size := rfl
    have hlen := listTo_len up 16
    refine round_ct hcall (by omega) hm he d0 d1 (by omega) h fun a w h => rounds_ct hd hcall hQ q (k + 1) (by omega) a w ?_
    have hg : (listTo up 16).getD k 0 = (m : Int) := by simp [List.getD, he]
    have e : (ctTo c (listTo up 16) (k + 1)).data.toList = (ctTo c (listTo up 16) k).data.toList ++ (cpc c m).data.toList := by
      rw [ctTo_succ c (listTo up 16) k hg, ByteArray.data_append, Array.toList_append]; rfl
    rw [e]
    exact h
end
theorem ctFn : ∃ fn, Tryz.prog.funcs[54]? = some fn ∧ fn.body.isNone = false ∧ (fn.name == "runtime.NumGoroutine") = false := ⟨Tryz.f54, Tryz.func54, by kernel_rfl, by kernel_rfl⟩
theorem sbFn : ∃ fn, Tryz.prog.funcs[103]? = some fn ∧ fn.body.isNone = false ∧ (fn.name == "runtime.NumGoroutine") = false := ⟨Tryz.f103, Tryz.func103, by kernel_rfl, by kernel_rfl⟩
/-- What costs.Text answers. -/
theorem ctext_at (up : Int) (c : Nat → Int) (hd : UU c) (W : World) (hJ : JP W) : CallAt Tryz.prog W 54 [.d (costsD up c)] (.d (.s (.string (ctxt up c)))) := by
  refine ⟨ctFn, fun vs hra => ?_⟩
  have hl := (RA_at hra).1
  have hB := JP_size hJ
  have hcall := hcallU (B := W.heap.size) hJ hB
  refine calls_of_wp Tryz.func54 rfl ?_
  have r0 := enter_rel hra 27
  have hn0 : ({ tmps := vs.toArray ++ Array.replicate (27 - vs.toArray.size) undef, defers := [] } : Act).tmps.size = 27 := by simp at hl ⊢; omega
  refine wp_seq ?_
  refine pieceR (call := fun _ _ => none) (b := ([1], [1])) (s' := ⟨tab .junk [(1, .ptr 1 (shC) [] (shC))], tab none [(1, some (.box (costsD up c)))]⟩) (fn := 54) (lf := loopFuel) env_ok (fun _ _ _ h => by cases h) (by kernel_rfl) ?e1 r0 hn0 (fun a w φ r hn => ?_)
  case e1 => simp (decide := true) only [Tryz.f54, rid, kl54_3, ↓sBp, sBq, List.all_cons, List.all_nil, List.map_cons, List.map_nil, D.shape, Sh.sub, Sh.size, List.getElem?_cons_zero, List.getElem?_cons_succ, Option.bind_some, Option.bind_none, Option.getD_some, Option.getD_none, V.keysIn, V.kill, V.has, decide_eq_true_eq, beq_iff_eq, bne_iff_ne, ne_eq, Bool.not_eq_true', Bool.and_true, Bool.and_self, Bool.true_and, if_true, if_false, reduceIte, Bool.false_eq_true, decide_true, decide_false, beq_self_eq_true, Bool.not_true, Bool.not_false, true_and, and_true, and_self, List.append_assoc, List.nil_append, List.cons_append, Int.toNat_natCast, ck, Int.cast_ofNat_Int, Int.reduceToNat, bne_self_eq_false, Bool.or_false, Bool.false_or, Bool.false_and, Bool.and_false, Bool.or_true, Bool.true_or]
  refine wp_seq (wp_region ?_)
  show wpOps _ _ _ [0] a w
  refine wpOps_cons rfl rfl ?_
  refine Yields.value (w' := w.alloc (.cells #[.pointer none, .slice none 0 0] bT)) (u := pV w.heap.size) (R := fun x y => x = pV w.heap.size ∧ y = w.alloc (.cells #[.pointer none, .slice none 0 0] bT)) ?_ ⟨rfl, rfl⟩ _ _ (fun x y hxy => ?_)
  · show ((do let v ← Instr.alloc bT true (.tuple #[]); pure (.value v) : Sem Next)).run Tryz.prog w = _
    have hi : ∃ i, Tryz.prog.info? bT = some i ∧ i.zero = some (.agg #[.pointer none, .slice none 0 0]) := ⟨_, rfl, rfl⟩
    obtain ⟨i, hi, hz⟩ := hi
    simp [Instr.alloc, zeroValue, typeInfo, hi, hz, newVar, newRow]
    rfl
  obtain ⟨rfl, rfl⟩ := hxy
  obtain ⟨φ3, r3⟩ := r.re.app (some 3) (v := .d (.s (pV w.heap.size))) (b := none) (u := pV w.heap.size) (w' := w) (φ' := φ) (stay ⟨rfl, rfl⟩) (fun k hk => by cases hk; omega)
  have hB2 := r.base
  have r4 := (r3.re.grow (Below.alloc1 w (.cells #[.pointer none, .slice none 0 0] bT))).re
  have start : HB W.heap.size W 27 w.heap.size [] (((⟨tab .junk [(1, .ptr 1 (shC) [] (shC))], tab none [(1, some (.box (costsD up c)))]⟩ : St)).app (some 3) (.d (.s (pV w.heap.size))) none) (a.put (some 3) (pV w.heap.size)) (w.alloc (.cells #[.pointer none, .slice none 0 0] bT)) := by
    refine ⟨⟨φ3, .pointer none, .slice none 0 0, r4, ⟨hB2, heap_alloc_new w _, .inl rfl, World.ownsRow_nil _ _ _ _⟩, fun k e => ?_, fun k g' e => by cases e⟩, by rw [put_size]; exact hn, r.bel.trans ((Below.alloc1 w _).mono hB2)⟩
    have := (r3.lo k _ e).2; omega
  show (Code.seq _ _).wp _ _ (a.put (some 3) (pV w.heap.size)) (w.alloc (.cells #[.pointer none, .slice none 0 0] bT))
  generalize w.alloc (.cells #[.pointer none, .slice none 0 0] bT) = w1 at start ⊢
  generalize w.heap.size = g at start ⊢
  generalize a.put (some 3) (pV g) = a1 at start ⊢
  refine wp_seq ?_
  refine wp_seq ?_
  refine start.piece (b := ([1, 3, 7, 8, 9], [1, 7])) (s' := T0 up c g 0) (fn := 54) (lf := loopFuel) hcall (by kernel_rfl) ?e2 (fun a w h => ?_)
  case e2 =>
    have eU : evF Tryz.prog env xu (9) 101 [.d (costsD up c)] = some (.sl .ro cI (ints (listTo up 16))) := up_u (up_ev 5 up c)
    have hle := ints_length (listTo up 16)
    simp (decide := true) only [eU, hle, T0, Tryz.f54, rid, kl54_3, ↓sBp, sBq, List.all_cons, List.all_nil, List.map_cons, List.map_nil, D.shape, Sh.sub, Sh.size, List.getElem?_cons_zero, List.getElem?_cons_succ, Option.bind_some, Option.bind_none, Option.getD_some, Option.getD_none, V.keysIn, V.kill, V.has, decide_eq_true_eq, beq_iff_eq, bne_iff_ne, ne_eq, Bool.not_eq_true', Bool.and_true, Bool.and_self, Bool.true_and, if_true, if_false, reduceIte, Bool.false_eq_true, decide_true, decide_false, beq_self_eq_true, Bool.not_true, Bool.not_false, true_and, and_true, and_self, List.append_assoc, List.nil_append, List.cons_append, Int.toNat_natCast, ck, Int.cast_ofNat_Int, Int.reduceToNat, bne_self_eq_false, Bool.or_false, Bool.false_or, Bool.false_and, Bool.and_false, Bool.or_true, Bool.true_or]
    try rfl
  refine wp_block (wp_loop_rounds ((listTo up 16).length + 1) (rounds_ct hd hcall (fun a w h => ?_) (listTo up 16).length 0 (by omega) a w h))
  obtain ⟨⟨φ', p', v', r', hh, c1, c2⟩, hn', hb'⟩ := h
  have e3 : a.eval (.tmp 3) = pV g := (r'.tm 3).2
  show (Code.seq _ _).wp _ _ a w
  refine wp_seq (wp_region ?_)
  show wpOps _ _ _ [0, 1] a w
  refine wpOps_cons (o := ⟨some 26, .call ⟨.value (.func 103), #[.tmp 3], _⟩, _, _, _, none⟩) rfl rfl ?_
  obtain ⟨fn, hfn, hbody, hname⟩ := sbFn
  unfold Oper.wp
  have ex1 : ∀ t2 p2 a2 ts, (execOp a.eval ⟨some 26, .call ⟨.value (.func 103), #[.tmp 3], ts⟩, t2, p2, a2, none⟩).run Tryz.prog w = .ok (.enter 103 #[pV g]) w := fun t2 p2 a2 ts => by
    have ef : a.eval (.func 103) = .func (.func 103) #[] #[] := rfl
    have em : #[Operand.tmp 3].map a.eval = #[pV g] := by simp [e3]
    simp only [execOp, resolve, ef, em, Deferred.ofValue, invoke, callFunc, Sem.run_bind, Sem.run_pure, Result.andThen_ok, run_program, hfn, hname, hbody, Bool.false_eq_true, if_false, Array.empty_append]
    rfl
  rw [ex1, Oper.upon_enter]
  have hs := st_calls hh.lo hh.cell hh.ptr hh.row r'.base
  refine hs.mono fun en w' hq => ?_
  obtain ⟨rfl, hbk⟩ := hq
  have hbw := Below.ofK hbk
  have est : (⟨(ctxt up c).data.toList.toArray⟩ : ByteArray) = ctxt up c := by simp
  rw [est]
  refine wpOps_cons rfl rfl ?_
  refine Yields.value (w' := w') (u := .string (ctxt up c)) (R := fun x y => x = .string (ctxt up c) ∧ y = w') ?_ ⟨rfl, rfl⟩ _ _ (fun x y hxy => ?_)
  · have e1 : (a.put (some 26) (.string (ctxt up c))).eval (.tmp 26) = .string (ctxt up c) := by
      show (a.put (some 26) _).tmps.getD 26 undef = _
      rw [put_get a 26 _ (by omega), if_pos rfl]
    show ((pure (.value ((a.put (some 26) (.string (ctxt up c))).eval (.tmp 26))) : Sem Next)).run Tryz.prog w' = _
    rw [e1]; rfl
  obtain ⟨rfl, rfl⟩ := hxy
  refine wp_ret ?_
  refine ⟨?_, .string (ctxt up c), ?_, .string (ctxt up c), rfl, hb'.trans hbw, ⟨rfl, rfl⟩⟩
  · rw [put_dfr, put_dfr]; exact r'.dfr
  · have e8 : (((a.put (some 26) (.string (ctxt up c))).put (some 2) (.string (ctxt up c))).tmps.getD 2 undef) = .string (ctxt up c) := by
      rw [put_get _ 2 _ (by rw [put_size]; omega), if_pos rfl]
    show (results Tryz.f54 ((a.put (some 26) (.string (ctxt up c))).put (some 2) (.string (ctxt up c))).tmps).run Tryz.prog _ = .ok (.string (ctxt up c)) _
    unfold results
    rw [show Tryz.f54.results = #[.tmp 2] from rfl]
    simp only [List.mapM_toArray, Array.mapM_eq_mapM_toList]
    simp only [List.mapM_cons, List.mapM_nil, Sem.run_bind, Sem.run_pure, Result.andThen_ok, Sem.run_map]
    simpa using e8
end Go.Proofs.YtjceimcepogkaaaGreatDoor.Ev
