/- What lpa calls beyond the other texts: phase.End, diff.Changed, merge.Asked and Replied. -/
import Derived.Test.YtjceimcepogkaaaGreatDoorM0
import Derived.Test.YtjceimcepogkaaaGreatDoorKd
import Derived.Test.YtjceimcepogkaaaGreatDoorM0
import Derived.Test.YtjceimcepogkaaaGreatDoorFe
import Derived.Test.YtjceimcepogkaaaGreatDoorSf
namespace Go.Proofs.YtjceimcepogkaaaGreatDoor.Ev
open Go
attribute [local congr] ob_congr sq_congr cd_congr ite_congr1 iter_congr it1_congr jumps_congr
set_option maxRecDepth 100000
set_option linter.unusedSimpArgs false
set_option linter.unusedVariables false
def endA (s a : Int) (i : Nat) : Int := upto (fun q a => withoutN a ((listTo s 16).getD q 0)) a i
def endW (s : Int) (w : Nat → Int) (i : Nat) : Nat → Int := upto (fun q w => setN w ((listTo s 16).getD q 0).toNat 0) w i
theorem endA_succ (s a : Int) (i : Nat) {n : Int} (h : (listTo s 16)[i]? = some n) : endA s a (i + 1) = withoutN (endA s a i) n := by
  have e : (listTo s 16).getD i 0 = n := by simp [List.getD, h]
  subst e; rfl
theorem endW_succ (s : Int) (w : Nat → Int) (i : Nat) {n : Int} (h : (listTo s 16)[i]? = some n) : endW s w (i + 1) = setN (endW s w i) n.toNat 0 := by
  have e : (listTo s 16).getD i 0 = n := by simp [List.getD, h]
  subst e; rfl
theorem end_ev (K : Nat) (a : Int) (w : Nat → Int) (s : Int) : evF Tryz.prog env xt (K+4) 130 [.d (phD a w), .d (.s (.int .i64 (s)))] = some (.d (phD (endA s a (listTo s 16).length) (endW s w (listTo s 16).length))) := by
  rw [evF_eq Tryz.func130 (show Tryz.f130.body = some _ from rfl) rfl rfl rfl (by show 2 ≤ 24; decide)]
  have hlen := listTo_len s 16
  have hle := ints_length (listTo s 16)
  simp (decide := true) only [list_ev, Tryz.f130, rid, kl130_2, ↓sBp, sBq, List.all_cons, List.all_nil, List.map_cons, List.map_nil, D.shape, Sh.sub, Sh.size, List.getElem?_cons_zero, List.getElem?_cons_succ, Option.bind_some, Option.bind_none, Option.getD_some, Option.getD_none, V.keysIn, V.kill, V.has, decide_eq_true_eq, beq_iff_eq, bne_iff_ne, ne_eq, Bool.not_eq_true', Bool.and_true, Bool.and_self, Bool.true_and, if_true, if_false, reduceIte, Bool.false_eq_true, decide_true, decide_false, beq_self_eq_true, Bool.not_true, Bool.not_false, true_and, and_true, and_self, List.append_assoc, List.nil_append, List.cons_append, Int.toNat_natCast, ck, Int.cast_ofNat_Int, Int.reduceToNat, bne_self_eq_false, Bool.or_false, Bool.false_or, Bool.false_and, Bool.and_false, Bool.or_true, Bool.true_or]
  rw [iter_run (S := fun i => ⟨tab .junk [(2, .ptr 2 (shP) [] (shP)), (4, .ptr 4 (shP) [] (shP)), (8, .sl (.tg 8) cI (ints (listTo s 16))), (9, .d (.s (.int .i64 ((listTo s 16).length)))), (10, .d (.s (.int .i64 (i))))], tab none [(2, some (.box (phD (endA s a i) (endW s w i)))), (4, some (.box (Z43))), (8, some .row)]⟩) (n := (listTo s 16).length) (h0 := ?h0) (hn := ?hn) (step := ?step)]
  case h0 => rw [hle]; rfl
  case hn => exact lt_loopFuel (by omega)
  case step =>
    intro i hi
    have hi1 : (i : Int) < ((listTo s 16).length : Int) := by omega
    have hi0 : (0 : Int) ≤ i := by omega
    have hiw := wrap_succ i (by omega)
    obtain ⟨n, hn, hh, he⟩ := listTo_get s hi
    have hg := ints_get he
    have hn0 : (0 : Int) ≤ (n : Int) := by omega
    have hn1 : (n : Int) < 16 := by omega
    have e1 := endA_succ s a i he
    have e2 := endW_succ s w i he
    rw [Int.toNat_natCast] at e2
    simp (decide := true) only [hi1, hi0, hiw, hg, hn0, hn1, without_ev, setN_int, e1, e2, Tryz.f130, rid, kl130_2, ↓sBp, sBq, List.all_cons, List.all_nil, List.map_cons, List.map_nil, D.shape, Sh.sub, Sh.size, List.getElem?_cons_zero, List.getElem?_cons_succ, Option.bind_some, Option.bind_none, Option.getD_some, Option.getD_none, V.keysIn, V.kill, V.has, decide_eq_true_eq, beq_iff_eq, bne_iff_ne, ne_eq, Bool.not_eq_true', Bool.and_true, Bool.and_self, Bool.true_and, if_true, if_false, reduceIte, Bool.false_eq_true, decide_true, decide_false, beq_self_eq_true, Bool.not_true, Bool.not_false, true_and, and_true, and_self, List.append_assoc, List.nil_append, List.cons_append, Int.toNat_natCast, ck, Int.cast_ofNat_Int, Int.reduceToNat, bne_self_eq_false, Bool.or_false, Bool.false_or, Bool.false_and, Bool.and_false, Bool.or_true, Bool.true_or]
  simp (decide := true) only [Int.lt_irrefl, Tryz.f130, rid, kl130_2, ↓sBp, sBq, List.all_cons, List.all_nil, List.map_cons, List.map_nil, D.shape, Sh.sub, Sh.size, List.getElem?_cons_zero, List.getElem?_cons_succ, Option.bind_some, Option.bind_none, Option.getD_some, Option.getD_none, V.keysIn, V.kill, V.has, decide_eq_true_eq, beq_iff_eq, bne_iff_ne, ne_eq, Bool.not_eq_true', Bool.and_true, Bool.and_self, Bool.true_and, if_true, if_false, reduceIte, Bool.false_eq_true, decide_true, decide_false, beq_self_eq_true, Bool.not_true, Bool.not_false, true_and, and_true, and_self, List.append_assoc, List.nil_append, List.cons_append, Int.toNat_natCast, ck, Int.cast_ofNat_Int, Int.reduceToNat, bne_self_eq_false, Bool.or_false, Bool.false_or, Bool.false_and, Bool.and_false, Bool.or_true, Bool.true_or]
def chgC (d p d' p' : Nat → Int) (j : Nat) : Bool := (d j != d' j) || (p j != p' j)
def chgF (d p d' p' : Nat → Int) : Int := setOf (chgC d p d' p') 16
theorem changed_ev (K : Nat) (d p n d' p' n' : Nat → Int) : evF Tryz.prog env xt (K+3) 115 [.d (rowsD d p n), .d (rowsD d' p' n')] = some (.d (.s (.int .i64 (chgF d p d' p')))) := by
  rw [evF_eq Tryz.func115 (show Tryz.f115.body = some _ from rfl) rfl rfl rfl (by show 2 ≤ 35; decide)]
  simp (decide := true) only [Tryz.f115, rid, kl115_3, dp115_5, ↓sBp, sBq, List.all_cons, List.all_nil, List.map_cons, List.map_nil, D.shape, Sh.sub, Sh.size, List.getElem?_cons_zero, List.getElem?_cons_succ, Option.bind_some, Option.bind_none, Option.getD_some, Option.getD_none, V.keysIn, V.kill, V.has, decide_eq_true_eq, beq_iff_eq, bne_iff_ne, ne_eq, Bool.not_eq_true', Bool.and_true, Bool.and_self, Bool.true_and, if_true, if_false, reduceIte, Bool.false_eq_true, decide_true, decide_false, beq_self_eq_true, Bool.not_true, Bool.not_false, true_and, and_true, and_self, List.append_assoc, List.nil_append, List.cons_append, Int.toNat_natCast, ck, Int.cast_ofNat_Int, Int.reduceToNat, bne_self_eq_false, Bool.or_false, Bool.false_or, Bool.false_and, Bool.and_false, Bool.or_true, Bool.true_or]
  rw [iter_run (S := fun k => ⟨tab .junk [(2, .ptr 2 (shRs) [] (shRs)), (3, .ptr 3 (shRs) [] (shRs)), (5, .d (.s (.int .i64 (setOf (chgC d p d' p') k)))), (7, .d (.s (.int .i64 (k))))], tab none [(2, some (.box (rowsD d p n))), (3, some (.box (rowsD d' p' n'))), (32, none)]⟩) (n := 16) (h0 := ?h0) (hn := lt_loopFuel (by decide)) (step := ?step)]
  case h0 => rfl
  case step =>
    intro k hk
    have hk1 : (k : Int) < 16 := by omega
    have hk0 : (0 : Int) ≤ k := by omega
    have hkw := wrap_succ k (by omega)
    have e : chgC d p d' p' k = ((d k != d' k) || (p k != p' k)) := rfl
    rcases Bool.eq_false_or_eq_true (d k != d' k) with h1 | h1
    · rw [h1] at e
      simp (decide := true) only [hk1, hk0, hkw, h1, setOf_succ, e, with_ev, Tryz.f115, rid, kl115_3, dp115_5, ↓sBp, sBq, List.all_cons, List.all_nil, List.map_cons, List.map_nil, D.shape, Sh.sub, Sh.size, List.getElem?_cons_zero, List.getElem?_cons_succ, Option.bind_some, Option.bind_none, Option.getD_some, Option.getD_none, V.keysIn, V.kill, V.has, decide_eq_true_eq, beq_iff_eq, bne_iff_ne, ne_eq, Bool.not_eq_true', Bool.and_true, Bool.and_self, Bool.true_and, if_true, if_false, reduceIte, Bool.false_eq_true, decide_true, decide_false, beq_self_eq_true, Bool.not_true, Bool.not_false, true_and, and_true, and_self, List.append_assoc, List.nil_append, List.cons_append, Int.toNat_natCast, ck, Int.cast_ofNat_Int, Int.reduceToNat, bne_self_eq_false, Bool.or_false, Bool.false_or, Bool.false_and, Bool.and_false, Bool.or_true, Bool.true_or]
    · rcases Bool.eq_false_or_eq_true (p k != p' k) with h2 | h2
      · rw [h1, h2] at e
        simp (decide := true) only [hk1, hk0, hkw, h1, h2, setOf_succ, e, with_ev, Tryz.f115, rid, kl115_3, dp115_5, ↓sBp, sBq, List.all_cons, List.all_nil, List.map_cons, List.map_nil, D.shape, Sh.sub, Sh.size, List.getElem?_cons_zero, List.getElem?_cons_succ, Option.bind_some, Option.bind_none, Option.getD_some, Option.getD_none, V.keysIn, V.kill, V.has, decide_eq_true_eq, beq_iff_eq, bne_iff_ne, ne_eq, Bool.not_eq_true', Bool.and_true, Bool.and_self, Bool.true_and, if_true, if_false, reduceIte, Bool.false_eq_true, decide_true, decide_false, beq_self_eq_true, Bool.not_true, Bool.not_false, true_and, and_true, and_self, List.append_assoc, List.nil_append, List.cons_append, Int.toNat_natCast, ck, Int.cast_ofNat_Int, Int.reduceToNat, bne_self_eq_false, Bool.or_false, Bool.false_or, Bool.false_and, Bool.and_false, Bool.or_true, Bool.true_or]
      · rw [h1, h2] at e
        simp (decide := true) only [hk1, hk0, hkw, h1, h2, setOf_succ, e, Tryz.f115, rid, kl115_3, dp115_5, ↓sBp, sBq, List.all_cons, List.all_nil, List.map_cons, List.map_nil, D.shape, Sh.sub, Sh.size, List.getElem?_cons_zero, List.getElem?_cons_succ, Option.bind_some, Option.bind_none, Option.getD_some, Option.getD_none, V.keysIn, V.kill, V.has, decide_eq_true_eq, beq_iff_eq, bne_iff_ne, ne_eq, Bool.not_eq_true', Bool.and_true, Bool.and_self, Bool.true_and, if_true, if_false, reduceIte, Bool.false_eq_true, decide_true, decide_false, beq_self_eq_true, Bool.not_true, Bool.not_false, true_and, and_true, and_self, List.append_assoc, List.nil_append, List.cons_append, Int.toNat_natCast, ck, Int.cast_ofNat_Int, Int.reduceToNat, bne_self_eq_false, Bool.or_false, Bool.false_or, Bool.false_and, Bool.and_false, Bool.or_true, Bool.true_or]
  simp (decide := true) only [chgF, Tryz.f115, rid, kl115_3, dp115_5, ↓sBp, sBq, List.all_cons, List.all_nil, List.map_cons, List.map_nil, D.shape, Sh.sub, Sh.size, List.getElem?_cons_zero, List.getElem?_cons_succ, Option.bind_some, Option.bind_none, Option.getD_some, Option.getD_none, V.keysIn, V.kill, V.has, decide_eq_true_eq, beq_iff_eq, bne_iff_ne, ne_eq, Bool.not_eq_true', Bool.and_true, Bool.and_self, Bool.true_and, if_true, if_false, reduceIte, Bool.false_eq_true, decide_true, decide_false, beq_self_eq_true, Bool.not_true, Bool.not_false, true_and, and_true, and_self, List.append_assoc, List.nil_append, List.cons_append, Int.toNat_natCast, ck, Int.cast_ofNat_Int, Int.reduceToNat, bne_self_eq_false, Bool.or_false, Bool.false_or, Bool.false_and, Bool.and_false, Bool.or_true, Bool.true_or]
def dst1 (of : Int) (x : Itm) (s : Int) : Int := if (rightI x.j x.k x.d x.p && (x.k == of)) = true then withN s x.j else s
def destTo (l : List Itm) (of : Int) (k : Nat) : Int := upto (fun i s => dst1 of (l.getD i ⟨0, 0, 0, 0⟩) s) 0 k
theorem destTo_succ (l : List Itm) (of : Int) (k : Nat) {x : Itm} (h : l.getD k ⟨0, 0, 0, 0⟩ = x) : destTo l of (k + 1) = dst1 of x (destTo l of k) := by subst h; rfl
theorem look1_ev (k : Nat) (m n : Int) : evF Tryz.prog env xt (k+1) 135 [.d (.s (.int .i64 (m))), .ep .ro cI (dI n)] = some (.d (.s (.bool (m == n)))) := by
  rw [evF_eq Tryz.func135 (show Tryz.f135.body = some _ from rfl) rfl rfl rfl (by first | (show 1 ≤ 7; decide) | (show 2 ≤ 7; decide) | (show 3 ≤ 7; decide) | (show 4 ≤ 7; decide) | (show 5 ≤ 7; decide))]
  simp (decide := true) only [Tryz.f135, rid, ↓sBp, sBq, List.all_cons, List.all_nil, List.map_cons, List.map_nil, D.shape, Sh.sub, Sh.size, List.getElem?_cons_zero, List.getElem?_cons_succ, Option.bind_some, Option.bind_none, Option.getD_some, Option.getD_none, V.keysIn, V.kill, V.has, decide_eq_true_eq, beq_iff_eq, bne_iff_ne, ne_eq, Bool.not_eq_true', Bool.and_true, Bool.and_self, Bool.true_and, if_true, if_false, reduceIte, Bool.false_eq_true, decide_true, decide_false, beq_self_eq_true, Bool.not_true, Bool.not_false, true_and, and_true, and_self, List.append_assoc, List.nil_append, List.cons_append, Int.toNat_natCast, ck, Int.cast_ofNat_Int, Int.reduceToNat, bne_self_eq_false, Bool.or_false, Bool.false_or, Bool.false_and, Bool.and_false, Bool.or_true, Bool.true_or]
theorem evMove_nilF (k t : Nat) (s : St) : evMove env k t s (.const .nilFunc) = some (.d (.s .nilFunc), none) := nr rfl
theorem mlook_ev (K : Nat) (n : Int) : evF Tryz.prog env xt (K+1) 120 [.d (.s (.int .i64 (n)))] = some (.clos 135 (.tcons (.ep .ro cI (dI n)) .tnil)) := by
  rw [evF_eq Tryz.func120 (show Tryz.f120.body = some _ from rfl) rfl rfl rfl (by show 1 ≤ 4; decide)]
  simp (decide := true) only [evMove_nilF, Tryz.f120, rid, ↓sBp, sBq, List.all_cons, List.all_nil, List.map_cons, List.map_nil, D.shape, Sh.sub, Sh.size, List.getElem?_cons_zero, List.getElem?_cons_succ, Option.bind_some, Option.bind_none, Option.getD_some, Option.getD_none, V.keysIn, V.kill, V.has, decide_eq_true_eq, beq_iff_eq, bne_iff_ne, ne_eq, Bool.not_eq_true', Bool.and_true, Bool.and_self, Bool.true_and, if_true, if_false, reduceIte, Bool.false_eq_true, decide_true, decide_false, beq_self_eq_true, Bool.not_true, Bool.not_false, true_and, and_true, and_self, List.append_assoc, List.nil_append, List.cons_append, Int.toNat_natCast, ck, Int.cast_ofNat_Int, Int.reduceToNat, bne_self_eq_false, Bool.or_false, Bool.false_or, Bool.false_and, Bool.and_false, Bool.or_true, Bool.true_or]
theorem mdests_ev (K : Nat) (l : List Itm) (n : Int) (hl : l.length < 1000000) : evF Tryz.prog env xt (K+3) 119 [.sl .ro shI (itms l), .clos 135 (.tcons (.ep .ro cI (dI n)) .tnil)] = some (.d (.s (.int .i64 (destTo l n l.length)))) := by
  rw [evF_eq Tryz.func119 (show Tryz.f119.body = some _ from rfl) rfl rfl rfl (by show 2 ≤ 28; decide)]
  have hle := itms_length l
  simp (decide := true) only [Tryz.f119, rid, kl119_3, ↓sBp, sBq, List.all_cons, List.all_nil, List.map_cons, List.map_nil, D.shape, Sh.sub, Sh.size, List.getElem?_cons_zero, List.getElem?_cons_succ, Option.bind_some, Option.bind_none, Option.getD_some, Option.getD_none, V.keysIn, V.kill, V.has, decide_eq_true_eq, beq_iff_eq, bne_iff_ne, ne_eq, Bool.not_eq_true', Bool.and_true, Bool.and_self, Bool.true_and, if_true, if_false, reduceIte, Bool.false_eq_true, decide_true, decide_false, beq_self_eq_true, Bool.not_true, Bool.not_false, true_and, and_true, and_self, List.append_assoc, List.nil_append, List.cons_append, Int.toNat_natCast, ck, Int.cast_ofNat_Int, Int.reduceToNat, bne_self_eq_false, Bool.or_false, Bool.false_or, Bool.false_and, Bool.and_false, Bool.or_true, Bool.true_or]
  rw [iter_run (S := fun k => ⟨tab .junk [(1, .clos 135 (.tcons (.ep .ro cI (dI n)) .tnil)), (5, .d (.s (.int .i64 (destTo l n k)))), (8, .sl .ro shI (itms l)), (9, .d (.s (.int .i64 (l.length)))), (10, .d (.s (.int .i64 (k))))], tab none [(25, none)]⟩) (n := l.length) (h0 := ?h0) (hn := ?hn) (step := ?step)]
  case h0 => rw [hle]; rfl
  case hn => exact lt_loopFuel hl
  case step =>
    intro k hk
    have hk1 : (k : Int) < (l.length : Int) := by omega
    have hk0 : (0 : Int) ≤ k := by omega
    have hkw := wrap_succ k (by omega)
    obtain ⟨x, hx⟩ : ∃ x, l[k]? = some x := ⟨l[k], List.getElem?_eq_getElem hk⟩
    have hg := itms_get hx
    have hd := destTo_succ l n k (x := x) (by simp [List.getD, hx])
    rcases Bool.eq_false_or_eq_true (rightI x.j x.k x.d x.p) with h1 | h1
    · rcases Bool.eq_false_or_eq_true (x.k == n) with h2 | h2
      · have e : dst1 n x (destTo l n k) = withN (destTo l n k) x.j := by unfold dst1; rw [h1, h2]; rfl
        rw [e] at hd
        simp (decide := true) only [hk1, hk0, hkw, hg, iright_ev, h1, look1_ev, h2, hd, with_ev, Tryz.f119, rid, kl119_3, ↓sBp, sBq, List.all_cons, List.all_nil, List.map_cons, List.map_nil, D.shape, Sh.sub, Sh.size, List.getElem?_cons_zero, List.getElem?_cons_succ, Option.bind_some, Option.bind_none, Option.getD_some, Option.getD_none, V.keysIn, V.kill, V.has, decide_eq_true_eq, beq_iff_eq, bne_iff_ne, ne_eq, Bool.not_eq_true', Bool.and_true, Bool.and_self, Bool.true_and, if_true, if_false, reduceIte, Bool.false_eq_true, decide_true, decide_false, beq_self_eq_true, Bool.not_true, Bool.not_false, true_and, and_true, and_self, List.append_assoc, List.nil_append, List.cons_append, Int.toNat_natCast, ck, Int.cast_ofNat_Int, Int.reduceToNat, bne_self_eq_false, Bool.or_false, Bool.false_or, Bool.false_and, Bool.and_false, Bool.or_true, Bool.true_or]
      · have e : dst1 n x (destTo l n k) = destTo l n k := by unfold dst1; rw [h2, Bool.and_false]; rfl
        rw [e] at hd
        simp (decide := true) only [hk1, hk0, hkw, hg, iright_ev, h1, look1_ev, h2, hd, Tryz.f119, rid, kl119_3, ↓sBp, sBq, List.all_cons, List.all_nil, List.map_cons, List.map_nil, D.shape, Sh.sub, Sh.size, List.getElem?_cons_zero, List.getElem?_cons_succ, Option.bind_some, Option.bind_none, Option.getD_some, Option.getD_none, V.keysIn, V.kill, V.has, decide_eq_true_eq, beq_iff_eq, bne_iff_ne, ne_eq, Bool.not_eq_true', Bool.and_true, Bool.and_self, Bool.true_and, if_true, if_false, reduceIte, Bool.false_eq_true, decide_true, decide_false, beq_self_eq_true, Bool.not_true, Bool.not_false, true_and, and_true, and_self, List.append_assoc, List.nil_append, List.cons_append, Int.toNat_natCast, ck, Int.cast_ofNat_Int, Int.reduceToNat, bne_self_eq_false, Bool.or_false, Bool.false_or, Bool.false_and, Bool.and_false, Bool.or_true, Bool.true_or]
    · have e : dst1 n x (destTo l n k) = destTo l n k := by unfold dst1; rw [h1]; rfl
      rw [e] at hd
      simp (decide := true) only [hk1, hk0, hkw, hg, iright_ev, h1, hd, Tryz.f119, rid, kl119_3, ↓sBp, sBq, List.all_cons, List.all_nil, List.map_cons, List.map_nil, D.shape, Sh.sub, Sh.size, List.getElem?_cons_zero, List.getElem?_cons_succ, Option.bind_some, Option.bind_none, Option.getD_some, Option.getD_none, V.keysIn, V.kill, V.has, decide_eq_true_eq, beq_iff_eq, bne_iff_ne, ne_eq, Bool.not_eq_true', Bool.and_true, Bool.and_self, Bool.true_and, if_true, if_false, reduceIte, Bool.false_eq_true, decide_true, decide_false, beq_self_eq_true, Bool.not_true, Bool.not_false, true_and, and_true, and_self, List.append_assoc, List.nil_append, List.cons_append, Int.toNat_natCast, ck, Int.cast_ofNat_Int, Int.reduceToNat, bne_self_eq_false, Bool.or_false, Bool.false_or, Bool.false_and, Bool.and_false, Bool.or_true, Bool.true_or]
  simp (decide := true) only [Int.lt_irrefl, Tryz.f119, rid, kl119_3, ↓sBp, sBq, List.all_cons, List.all_nil, List.map_cons, List.map_nil, D.shape, Sh.sub, Sh.size, List.getElem?_cons_zero, List.getElem?_cons_succ, Option.bind_some, Option.bind_none, Option.getD_some, Option.getD_none, V.keysIn, V.kill, V.has, decide_eq_true_eq, beq_iff_eq, bne_iff_ne, ne_eq, Bool.not_eq_true', Bool.and_true, Bool.and_self, Bool.true_and, if_true, if_false, reduceIte, Bool.false_eq_true, decide_true, decide_false, beq_self_eq_true, Bool.not_true, Bool.not_false, true_and, and_true, and_self, List.append_assoc, List.nil_append, List.cons_append, Int.toNat_natCast, ck, Int.cast_ofNat_Int, Int.reduceToNat, bne_self_eq_false, Bool.or_false, Bool.false_or, Bool.false_and, Bool.and_false, Bool.or_true, Bool.true_or]
theorem mapply_raw (K : Nat) (d p : Nat → Int) (a : Option Addr) (c : Nat) : evF Tryz.prog env xt (K+3) 73 [.d (treeD d p), .d (.s (.slice a 0 c))] = some (.d (treeD d p)) := by
  rw [evF_eq Tryz.func73 (show Tryz.f73.body = some _ from rfl) rfl rfl rfl (by show 2 ≤ 25; decide)]
  simp (decide := true) only [Tryz.f73, rid, kl73_2, ↓sBp, sBq, List.all_cons, List.all_nil, List.map_cons, List.map_nil, D.shape, Sh.sub, Sh.size, List.getElem?_cons_zero, List.getElem?_cons_succ, Option.bind_some, Option.bind_none, Option.getD_some, Option.getD_none, V.keysIn, V.kill, V.has, decide_eq_true_eq, beq_iff_eq, bne_iff_ne, ne_eq, Bool.not_eq_true', Bool.and_true, Bool.and_self, Bool.true_and, if_true, if_false, reduceIte, Bool.false_eq_true, decide_true, decide_false, beq_self_eq_true, Bool.not_true, Bool.not_false, true_and, and_true, and_self, List.append_assoc, List.nil_append, List.cons_append, Int.toNat_natCast, ck, Int.cast_ofNat_Int, Int.reduceToNat, bne_self_eq_false, Bool.or_false, Bool.false_or, Bool.false_and, Bool.and_false, Bool.or_true, Bool.true_or]
  rw [iter_run (S := fun k => ⟨tab .junk [(2, .ptr 2 (shT) [] (shT)), (4, .ptr 4 (shT) [] (shT)), (7, .d (.s (.slice a 0 c))), (8, .d (.s (.int .i64 (0)))), (9, .d (.s (.int .i64 (k))))], tab none [(2, some (.box (treeD d p))), (4, some (.box (Z33)))]⟩) (n := 0) (h0 := ?h0) (hn := lt_loopFuel (by decide)) (step := ?step)]
  case h0 => rfl
  case step => intro k hk; omega
  simp (decide := true) only [Tryz.f73, rid, kl73_2, ↓sBp, sBq, List.all_cons, List.all_nil, List.map_cons, List.map_nil, D.shape, Sh.sub, Sh.size, List.getElem?_cons_zero, List.getElem?_cons_succ, Option.bind_some, Option.bind_none, Option.getD_some, Option.getD_none, V.keysIn, V.kill, V.has, decide_eq_true_eq, beq_iff_eq, bne_iff_ne, ne_eq, Bool.not_eq_true', Bool.and_true, Bool.and_self, Bool.true_and, if_true, if_false, reduceIte, Bool.false_eq_true, decide_true, decide_false, beq_self_eq_true, Bool.not_true, Bool.not_false, true_and, and_true, and_self, List.append_assoc, List.nil_append, List.cons_append, Int.toNat_natCast, ck, Int.cast_ofNat_Int, Int.reduceToNat, bne_self_eq_false, Bool.or_false, Bool.false_or, Bool.false_and, Bool.and_false, Bool.or_true, Bool.true_or]
theorem mdests_raw (K : Nat) (a : Option Addr) (c : Nat) (n : Int) : evF Tryz.prog env xt (K+3) 119 [.d (.s (.slice a 0 c)), .clos 135 (.tcons (.ep .ro cI (dI n)) .tnil)] = some (.d (.s (.int .i64 (0)))) := by
  rw [evF_eq Tryz.func119 (show Tryz.f119.body = some _ from rfl) rfl rfl rfl (by show 2 ≤ 28; decide)]
  simp (decide := true) only [Tryz.f119, rid, kl119_3, ↓sBp, sBq, List.all_cons, List.all_nil, List.map_cons, List.map_nil, D.shape, Sh.sub, Sh.size, List.getElem?_cons_zero, List.getElem?_cons_succ, Option.bind_some, Option.bind_none, Option.getD_some, Option.getD_none, V.keysIn, V.kill, V.has, decide_eq_true_eq, beq_iff_eq, bne_iff_ne, ne_eq, Bool.not_eq_true', Bool.and_true, Bool.and_self, Bool.true_and, if_true, if_false, reduceIte, Bool.false_eq_true, decide_true, decide_false, beq_self_eq_true, Bool.not_true, Bool.not_false, true_and, and_true, and_self, List.append_assoc, List.nil_append, List.cons_append, Int.toNat_natCast, ck, Int.cast_ofNat_Int, Int.reduceToNat, bne_self_eq_false, Bool.or_false, Bool.false_or, Bool.false_and, Bool.and_false, Bool.or_true, Bool.true_or]
  rw [iter_run (S := fun k => ⟨tab .junk [(1, .clos 135 (.tcons (.ep .ro cI (dI n)) .tnil)), (5, .d (.s (.int .i64 (0)))), (8, .d (.s (.slice a 0 c))), (9, .d (.s (.int .i64 (0)))), (10, .d (.s (.int .i64 (k))))], tab none [(25, none)]⟩) (n := 0) (h0 := ?h0) (hn := lt_loopFuel (by decide)) (step := ?step)]
  case h0 => rfl
  case step => intro k hk; omega
  simp (decide := true) only [Tryz.f119, rid, kl119_3, ↓sBp, sBq, List.all_cons, List.all_nil, List.map_cons, List.map_nil, D.shape, Sh.sub, Sh.size, List.getElem?_cons_zero, List.getElem?_cons_succ, Option.bind_some, Option.bind_none, Option.getD_some, Option.getD_none, V.keysIn, V.kill, V.has, decide_eq_true_eq, beq_iff_eq, bne_iff_ne, ne_eq, Bool.not_eq_true', Bool.and_true, Bool.and_self, Bool.true_and, if_true, if_false, reduceIte, Bool.false_eq_true, decide_true, decide_false, beq_self_eq_true, Bool.not_true, Bool.not_false, true_and, and_true, and_self, List.append_assoc, List.nil_append, List.cons_append, Int.toNat_natCast, ck, Int.cast_ofNat_Int, Int.reduceToNat, bne_self_eq_false, Bool.or_false, Bool.false_or, Bool.false_and, Bool.and_false, Bool.or_true, Bool.true_or]
theorem asked_raw (K : Nat) (a : Option Addr) (c : Nat) : evF Tryz.prog env xt (K+4) 74 [.d (.s (.slice a 0 c))] = some (.d (.s (.int .i64 (0)))) := by
  rw [evF_eq Tryz.func74 (show Tryz.f74.body = some _ from rfl) rfl rfl rfl (by show 1 ≤ 6; decide)]
  have e := mdests_raw K a c 1
  simp (decide := true) only [mlook_ev, e, Tryz.f74, rid, ↓sBp, sBq, List.all_cons, List.all_nil, List.map_cons, List.map_nil, D.shape, Sh.sub, Sh.size, List.getElem?_cons_zero, List.getElem?_cons_succ, Option.bind_some, Option.bind_none, Option.getD_some, Option.getD_none, V.keysIn, V.kill, V.has, decide_eq_true_eq, beq_iff_eq, bne_iff_ne, ne_eq, Bool.not_eq_true', Bool.and_true, Bool.and_self, Bool.true_and, if_true, if_false, reduceIte, Bool.false_eq_true, decide_true, decide_false, beq_self_eq_true, Bool.not_true, Bool.not_false, true_and, and_true, and_self, List.append_assoc, List.nil_append, List.cons_append, Int.toNat_natCast, ck, Int.cast_ofNat_Int, Int.reduceToNat, bne_self_eq_false, Bool.or_false, Bool.false_or, Bool.false_and, Bool.and_false, Bool.or_true, Bool.true_or]
theorem replied_raw (K : Nat) (a : Option Addr) (c : Nat) : evF Tryz.prog env xt (K+4) 75 [.d (.s (.slice a 0 c))] = some (.d (.s (.int .i64 (0)))) := by
  rw [evF_eq Tryz.func75 (show Tryz.f75.body = some _ from rfl) rfl rfl rfl (by show 1 ≤ 6; decide)]
  have e := mdests_raw K a c 2
  simp (decide := true) only [mlook_ev, e, Tryz.f75, rid, ↓sBp, sBq, List.all_cons, List.all_nil, List.map_cons, List.map_nil, D.shape, Sh.sub, Sh.size, List.getElem?_cons_zero, List.getElem?_cons_succ, Option.bind_some, Option.bind_none, Option.getD_some, Option.getD_none, V.keysIn, V.kill, V.has, decide_eq_true_eq, beq_iff_eq, bne_iff_ne, ne_eq, Bool.not_eq_true', Bool.and_true, Bool.and_self, Bool.true_and, if_true, if_false, reduceIte, Bool.false_eq_true, decide_true, decide_false, beq_self_eq_true, Bool.not_true, Bool.not_false, true_and, and_true, and_self, List.append_assoc, List.nil_append, List.cons_append, Int.toNat_natCast, ck, Int.cast_ofNat_Int, Int.reduceToNat, bne_self_eq_false, Bool.or_false, Bool.false_or, Bool.false_and, Bool.and_false, Bool.or_true, Bool.true_or]
theorem asked_ev (K : Nat) (l : List Itm) (hl : l.length < 1000000) : evF Tryz.prog env xt (K+4) 74 [.sl .ro shI (itms l)] = some (.d (.s (.int .i64 (destTo l 1 l.length)))) := by
  rw [evF_eq Tryz.func74 (show Tryz.f74.body = some _ from rfl) rfl rfl rfl (by show 1 ≤ 6; decide)]
  have e := mdests_ev K l 1 hl
  simp (decide := true) only [mlook_ev, e, Tryz.f74, rid, ↓sBp, sBq, List.all_cons, List.all_nil, List.map_cons, List.map_nil, D.shape, Sh.sub, Sh.size, List.getElem?_cons_zero, List.getElem?_cons_succ, Option.bind_some, Option.bind_none, Option.getD_some, Option.getD_none, V.keysIn, V.kill, V.has, decide_eq_true_eq, beq_iff_eq, bne_iff_ne, ne_eq, Bool.not_eq_true', Bool.and_true, Bool.and_self, Bool.true_and, if_true, if_false, reduceIte, Bool.false_eq_true, decide_true, decide_false, beq_self_eq_true, Bool.not_true, Bool.not_false, true_and, and_true, and_self, List.append_assoc, List.nil_append, List.cons_append, Int.toNat_natCast, ck, Int.cast_ofNat_Int, Int.reduceToNat, bne_self_eq_false, Bool.or_false, Bool.false_or, Bool.false_and, Bool.and_false, Bool.or_true, Bool.true_or]
theorem replied_ev (K : Nat) (l : List Itm) (hl : l.length < 1000000) : evF Tryz.prog env xt (K+4) 75 [.sl .ro shI (itms l)] = some (.d (.s (.int .i64 (destTo l 2 l.length)))) := by
  rw [evF_eq Tryz.func75 (show Tryz.f75.body = some _ from rfl) rfl rfl rfl (by show 1 ≤ 6; decide)]
  have e := mdests_ev K l 2 hl
  simp (decide := true) only [mlook_ev, e, Tryz.f75, rid, ↓sBp, sBq, List.all_cons, List.all_nil, List.map_cons, List.map_nil, D.shape, Sh.sub, Sh.size, List.getElem?_cons_zero, List.getElem?_cons_succ, Option.bind_some, Option.bind_none, Option.getD_some, Option.getD_none, V.keysIn, V.kill, V.has, decide_eq_true_eq, beq_iff_eq, bne_iff_ne, ne_eq, Bool.not_eq_true', Bool.and_true, Bool.and_self, Bool.true_and, if_true, if_false, reduceIte, Bool.false_eq_true, decide_true, decide_false, beq_self_eq_true, Bool.not_true, Bool.not_false, true_and, and_true, and_self, List.append_assoc, List.nil_append, List.cons_append, Int.toNat_natCast, ck, Int.cast_ofNat_Int, Int.reduceToNat, bne_self_eq_false, Bool.or_false, Bool.false_or, Bool.false_and, Bool.and_false, Bool.or_true, Bool.true_or]
end Go.Proofs.YtjceimcepogkaaaGreatDoor.Ev
/- What the functions of lpa compute: a round, and the table made anew. -/
namespace Go.Proofs.YtjceimcepogkaaaGreatDoor.Ev
open Go
attribute [local congr] ob_congr sq_congr cd_congr ite_congr1 iter_congr it1_congr jumps_congr
set_option maxRecDepth 100000
set_option linter.unusedSimpArgs false
set_option linter.unusedVariables false
structure LP where
  k : Kn
  r : Rw
  least : Nat → Int
  act : Int
  wait : Nat → Int
  tell : Nat → Int
  ask : Nat → Int
  reply : Nat → Int
abbrev shL : Sh := .cons shK (.cons shRs (.cons (.arr 16 cU) (.cons shP (.cons (.arr 16 cI) (.cons (.arr 16 cI) (.cons (.arr 16 cI) .nil))))))
abbrev lpX (self up : Int) (c : Nat → Int) (tD tP : Nat → Nat → Int) (rD rP rN le : Nat → Int) (a : Int) (w t q p : Nat → Int) : D :=
  .cons (knD self up c tD tP) (.cons (rowsD rD rP rN) (.cons (arrU le) (.cons (phD a w) (.cons (arr16 t) (.cons (arr16 q) (.cons (arr16 p) .nil))))))
abbrev lpD (l : LP) : D := lpX l.k.self l.k.up l.k.c l.k.tD l.k.tP l.r.d l.r.p l.r.n l.least l.act l.wait l.tell l.ask l.reply
def nb (up : Int) : Int := bits .and .i64 up 65535
theorem setN_tree (tD tP : Nat → Nat → Int) (i : Nat) (d p : Nat → Int) : setN (fun n => D.arr 16 (.cons (.cell (.int .u32)) (.cons (.cell (.int .i64)) .nil)) fun i => D.cons (.s (.int .u32 (tD n i))) (.cons (.s (.int .i64 (tP n i))) .nil)) i (D.arr 16 (.cons (.cell (.int .u32)) (.cons (.cell (.int .i64)) .nil)) fun i => D.cons (.s (.int .u32 (d i))) (.cons (.s (.int .i64 (p i))) .nil)) =
    fun n => D.arr 16 (.cons (.cell (.int .u32)) (.cons (.cell (.int .i64)) .nil)) fun j => D.cons (.s (.int .u32 (setN tD i d n j))) (.cons (.s (.int .i64 (setN tP i p n j))) .nil) :=
  funext fun j => by by_cases h : j = i <;> simp [setN, h]
section
variable (self up : Int) (c : Nat → Int) (tD tP : Nat → Nat → Int) (rD rP rN le : Nat → Int) (a : Int) (w t q p : Nat → Int)
theorem neigh_ev (K : Nat) : evF Tryz.prog env xt (K+1) 110 [.d (lpX self up c tD tP rD rP rN le a w t q p)] = some (.d (.s (.int .i64 (nb up)))) := by
  rw [evF_eq Tryz.func110 (show Tryz.f110.body = some _ from rfl) rfl rfl rfl (by show 1 ≤ 8; decide)]
  simp (decide := true) only [nb, Tryz.f110, rid, ↓sBp, sBq, List.all_cons, List.all_nil, List.map_cons, List.map_nil, D.shape, Sh.sub, Sh.size, List.getElem?_cons_zero, List.getElem?_cons_succ, Option.bind_some, Option.bind_none, Option.getD_some, Option.getD_none, V.keysIn, V.kill, V.has, decide_eq_true_eq, beq_iff_eq, bne_iff_ne, ne_eq, Bool.not_eq_true', Bool.and_true, Bool.and_self, Bool.true_and, if_true, if_false, reduceIte, Bool.false_eq_true, decide_true, decide_false, beq_self_eq_true, Bool.not_true, Bool.not_false, true_and, and_true, and_self, List.append_assoc, List.nil_append, List.cons_append, Int.toNat_natCast, ck, Int.cast_ofNat_Int, Int.reduceToNat, bne_self_eq_false, Bool.or_false, Bool.false_or, Bool.false_and, Bool.and_false, Bool.or_true, Bool.true_or]
theorem linked_ev (K : Nat) (n : Int) : evF Tryz.prog env xt (K+4) 66 [.d (lpX self up c tD tP rD rP rN le a w t q p), .d (.s (.int .i64 (n)))] = some (.d (.s (.bool (has (nb up) n)))) := by
  rw [evF_eq Tryz.func66 (show Tryz.f66.body = some _ from rfl) rfl rfl rfl (by show 2 ≤ 9; decide)]
  simp (decide := true) only [neigh_ev, has_ev, Tryz.f66, rid, ↓sBp, sBq, List.all_cons, List.all_nil, List.map_cons, List.map_nil, D.shape, Sh.sub, Sh.size, List.getElem?_cons_zero, List.getElem?_cons_succ, Option.bind_some, Option.bind_none, Option.getD_some, Option.getD_none, V.keysIn, V.kill, V.has, decide_eq_true_eq, beq_iff_eq, bne_iff_ne, ne_eq, Bool.not_eq_true', Bool.and_true, Bool.and_self, Bool.true_and, if_true, if_false, reduceIte, Bool.false_eq_true, decide_true, decide_false, beq_self_eq_true, Bool.not_true, Bool.not_false, true_and, and_true, and_self, List.append_assoc, List.nil_append, List.cons_append, Int.toNat_natCast, ck, Int.cast_ofNat_Int, Int.reduceToNat, bne_self_eq_false, Bool.or_false, Bool.false_or, Bool.false_and, Bool.and_false, Bool.or_true, Bool.true_or]
theorem hush_ev (K : Nat) (n : Int) : evF Tryz.prog env xt (K+3) 72 [.d (lpX self up c tD tP rD rP rN le a w t q p), .d (.s (.int .i64 (n)))] = some (.d (lpX self up c tD tP rD rP rN le a w (clear t n) (clear q n) (clear p n))) := by
  rw [evF_eq Tryz.func72 (show Tryz.f72.body = some _ from rfl) rfl rfl rfl (by show 2 ≤ 21; decide)]
  simp (decide := true) only [clear_ev, Tryz.f72, rid, dp72_1, ↓sBp, sBq, List.all_cons, List.all_nil, List.map_cons, List.map_nil, D.shape, Sh.sub, Sh.size, List.getElem?_cons_zero, List.getElem?_cons_succ, Option.bind_some, Option.bind_none, Option.getD_some, Option.getD_none, V.keysIn, V.kill, V.has, decide_eq_true_eq, beq_iff_eq, bne_iff_ne, ne_eq, Bool.not_eq_true', Bool.and_true, Bool.and_self, Bool.true_and, if_true, if_false, reduceIte, Bool.false_eq_true, decide_true, decide_false, beq_self_eq_true, Bool.not_true, Bool.not_false, true_and, and_true, and_self, List.append_assoc, List.nil_append, List.cons_append, Int.toNat_natCast, ck, Int.cast_ofNat_Int, Int.reduceToNat, bne_self_eq_false, Bool.or_false, Bool.false_or, Bool.false_and, Bool.and_false, Bool.or_true, Bool.true_or]
theorem forget_ev (K : Nat) (n : Int) (hn : right n = true) : evF Tryz.prog env xt (K+4) 68 [.d (lpX self up c tD tP rD rP rN le a w t q p), .d (.s (.int .i64 (n)))] =
    some (.d (lpX self up c (setN tD n.toNat (putN farD (-1) 0)) (setN tP n.toNat farP) rD rP rN le a w (clear t n) (clear q n) (clear p n))) := by
  rw [evF_eq Tryz.func68 (show Tryz.f68.body = some _ from rfl) rfl rfl rfl (by show 2 ≤ 13; decide)]
  have h2 := right_nn hn
  simp (decide := true) only [h2, new_ev, hush_ev, setN_tree, Tryz.f68, rid, ↓sBp, sBq, List.all_cons, List.all_nil, List.map_cons, List.map_nil, D.shape, Sh.sub, Sh.size, List.getElem?_cons_zero, List.getElem?_cons_succ, Option.bind_some, Option.bind_none, Option.getD_some, Option.getD_none, V.keysIn, V.kill, V.has, decide_eq_true_eq, beq_iff_eq, bne_iff_ne, ne_eq, Bool.not_eq_true', Bool.and_true, Bool.and_self, Bool.true_and, if_true, if_false, reduceIte, Bool.false_eq_true, decide_true, decide_false, beq_self_eq_true, Bool.not_true, Bool.not_false, true_and, and_true, and_self, List.append_assoc, List.nil_append, List.cons_append, Int.toNat_natCast, ck, Int.cast_ofNat_Int, Int.reduceToNat, bne_self_eq_false, Bool.or_false, Bool.false_or, Bool.false_and, Bool.and_false, Bool.or_true, Bool.true_or]
def rdD (a : Int) (w : Nat → Int) : Int := upto (done1 w (listTo a 16)) 0 (listTo a 16).length
theorem rdD_ev (K : Nat) : evF Tryz.prog env xt (K+4) 82 [.d (phD a w)] = some (.d (.s (.int .i64 (rdD a w)))) := done_ev K a w
structure PhS where
  a : Int
  w : Nat → Int
def st1 (up j : Int) (s : PhS) : PhS := if has s.a j = false then ⟨withN s.a j, setN s.w j.toNat (nb up)⟩ else s
def stT (up bl : Int) (s : PhS) (i : Nat) : PhS := upto (fun q s => st1 up ((listTo bl 16).getD q 0) s) s i
theorem stT_succ (up bl : Int) (s : PhS) (i : Nat) {n : Int} (h : (listTo bl 16)[i]? = some n) : stT up bl s (i + 1) = st1 up n (stT up bl s i) := by
  have e : (listTo bl 16).getD i 0 = n := by simp [List.getD, h]
  subst e; rfl
set_option maxHeartbeats 4000000 in
theorem round_ev (K : Nat) (nbr dn a1 : Int) (w1 L1 : Nat → Int) (R : Rw) (bl : Int) (s2 : PhS) (q2 : Nat → Int) (hdn : rdD a w = dn) (ha1 : endA dn a (listTo dn 16).length = a1) (hw1 : endW dn w (listTo dn 16).length = w1)
    (hL1 : resetF dn le = L1) (hR : settleF ⟨self, up, c, tD, tP⟩ a1 = R) (hbl : blkF ⟨self, up, c, tD, tP⟩ R.n L1 = bl) (hs2 : stT nbr bl ⟨a1, w1⟩ (listTo bl 16).length = s2) (hq2 : upto (spread1 nbr bl) q 16 = q2) :
    evF Tryz.prog env xt (K+7) 112 [.d (lpX self up c tD tP rD rP rN le a w t q p), .d (.s (.int .i64 (nbr)))] = some (.tcons (.d (lpX self up c tD tP R.d R.p R.n L1 s2.a s2.w t q2 p)) (.tcons (.d (.s (.bool (bl != 0)))) .tnil)) := by
  rw [evF_eq Tryz.func112 (show Tryz.f112.body = some _ from rfl) rfl rfl rfl (by show 2 ≤ 60; decide)]
  have e1 := rdD_ev a w (K+2)
  rw [hdn] at e1
  have e2 := end_ev (K+2) a w dn
  rw [ha1, hw1] at e2
  have e3 := reset_ev (K+2) le dn
  rw [hL1] at e3
  have e4 := settle_ev K self up c tD tP a1
  rw [hR] at e4
  have e5 := blocked_ev (K+2) self up c tD tP R.d R.p R.n L1
  rw [hbl] at e5
  have e6 := spread_ev (K+3) q nbr bl
  rw [hq2] at e6
  have hlen := listTo_len bl 16
  have hle := ints_length (listTo bl 16)
  simp (decide := true) only [e1, e2, e3, e4, e5, list_ev, Tryz.f112, rid, kl112_7, ↓sBp, sBq, List.all_cons, List.all_nil, List.map_cons, List.map_nil, D.shape, Sh.sub, Sh.size, List.getElem?_cons_zero, List.getElem?_cons_succ, Option.bind_some, Option.bind_none, Option.getD_some, Option.getD_none, V.keysIn, V.kill, V.has, decide_eq_true_eq, beq_iff_eq, bne_iff_ne, ne_eq, Bool.not_eq_true', Bool.and_true, Bool.and_self, Bool.true_and, if_true, if_false, reduceIte, Bool.false_eq_true, decide_true, decide_false, beq_self_eq_true, Bool.not_true, Bool.not_false, true_and, and_true, and_self, List.append_assoc, List.nil_append, List.cons_append, Int.toNat_natCast, ck, Int.cast_ofNat_Int, Int.reduceToNat, bne_self_eq_false, Bool.or_false, Bool.false_or, Bool.false_and, Bool.and_false, Bool.or_true, Bool.true_or]
  rw [iter_run (S := fun i => ⟨tab .junk [(1, .d (.s (.int .i64 (nbr)))), (2, .ptr 2 (shL) [] (shL)), (4, .ptr 4 (shL) [] (shL)), (7, .d (.s (.int .i64 (bl)))), (38, .sl (.tg 38) cI (ints (listTo bl 16))), (39, .d (.s (.int .i64 ((listTo bl 16).length)))), (40, .d (.s (.int .i64 (i))))], tab none [(2, some (.box (lpX self up c tD tP R.d R.p R.n L1 (stT nbr bl ⟨a1, w1⟩ i).a (stT nbr bl ⟨a1, w1⟩ i).w t q p))), (4, some (.box (Z45))), (36, none), (38, some .row)]⟩) (n := (listTo bl 16).length) (h0 := ?h0) (hn := ?hn) (step := ?step)]
  case h0 => rw [hle]; rfl
  case hn => exact lt_loopFuel (by omega)
  case step =>
    intro i hi
    have hi1 : (i : Int) < ((listTo bl 16).length : Int) := by omega
    have hi0 : (0 : Int) ≤ i := by omega
    have hiw := wrap_succ i (by omega)
    obtain ⟨n, hn, hh, he⟩ := listTo_get bl hi
    have hg := ints_get he
    have hr : right (n : Int) = true := right_of hn
    have es := stT_succ nbr bl ⟨a1, w1⟩ i he
    generalize stT nbr bl ⟨a1, w1⟩ i = s at es
    have e7 := start_ev (K+3) s.a s.w n nbr
    rcases Bool.eq_false_or_eq_true (has s.a n) with h1 | h1
    · have e8 : st1 nbr n s = s := by unfold st1; rw [if_neg (by rw [h1]; decide)]
      rw [e8] at es
      rw [if_neg (by rw [h1]; simp)] at e7
      simp (decide := true) only [hi1, hi0, hiw, hg, e7, es, Tryz.f112, rid, kl112_7, ↓sBp, sBq, List.all_cons, List.all_nil, List.map_cons, List.map_nil, D.shape, Sh.sub, Sh.size, List.getElem?_cons_zero, List.getElem?_cons_succ, Option.bind_some, Option.bind_none, Option.getD_some, Option.getD_none, V.keysIn, V.kill, V.has, decide_eq_true_eq, beq_iff_eq, bne_iff_ne, ne_eq, Bool.not_eq_true', Bool.and_true, Bool.and_self, Bool.true_and, if_true, if_false, reduceIte, Bool.false_eq_true, decide_true, decide_false, beq_self_eq_true, Bool.not_true, Bool.not_false, true_and, and_true, and_self, List.append_assoc, List.nil_append, List.cons_append, Int.toNat_natCast, ck, Int.cast_ofNat_Int, Int.reduceToNat, bne_self_eq_false, Bool.or_false, Bool.false_or, Bool.false_and, Bool.and_false, Bool.or_true, Bool.true_or]
    · have e8 : st1 nbr n s = ⟨withN s.a n, setN s.w (n : Int).toNat (bits .and .i64 nbr 65535)⟩ := by unfold st1; rw [if_pos h1]; rfl
      rw [e8] at es
      rw [if_pos ⟨hr, h1⟩] at e7
      simp (decide := true) only [hi1, hi0, hiw, hg, e7, es, Tryz.f112, rid, kl112_7, ↓sBp, sBq, List.all_cons, List.all_nil, List.map_cons, List.map_nil, D.shape, Sh.sub, Sh.size, List.getElem?_cons_zero, List.getElem?_cons_succ, Option.bind_some, Option.bind_none, Option.getD_some, Option.getD_none, V.keysIn, V.kill, V.has, decide_eq_true_eq, beq_iff_eq, bne_iff_ne, ne_eq, Bool.not_eq_true', Bool.and_true, Bool.and_self, Bool.true_and, if_true, if_false, reduceIte, Bool.false_eq_true, decide_true, decide_false, beq_self_eq_true, Bool.not_true, Bool.not_false, true_and, and_true, and_self, List.append_assoc, List.nil_append, List.cons_append, Int.toNat_natCast, ck, Int.cast_ofNat_Int, Int.reduceToNat, bne_self_eq_false, Bool.or_false, Bool.false_or, Bool.false_and, Bool.and_false, Bool.or_true, Bool.true_or]
  rw [hs2]
  simp (decide := true) only [Int.lt_irrefl, e6, Tryz.f112, rid, kl112_7, ↓sBp, sBq, List.all_cons, List.all_nil, List.map_cons, List.map_nil, D.shape, Sh.sub, Sh.size, List.getElem?_cons_zero, List.getElem?_cons_succ, Option.bind_some, Option.bind_none, Option.getD_some, Option.getD_none, V.keysIn, V.kill, V.has, decide_eq_true_eq, beq_iff_eq, bne_iff_ne, ne_eq, Bool.not_eq_true', Bool.and_true, Bool.and_self, Bool.true_and, if_true, if_false, reduceIte, Bool.false_eq_true, decide_true, decide_false, beq_self_eq_true, Bool.not_true, Bool.not_false, true_and, and_true, and_self, List.append_assoc, List.nil_append, List.cons_append, Int.toNat_natCast, ck, Int.cast_ofNat_Int, Int.reduceToNat, bne_self_eq_false, Bool.or_false, Bool.false_or, Bool.false_and, Bool.and_false, Bool.or_true, Bool.true_or]
end
end Go.Proofs.YtjceimcepogkaaaGreatDoor.Ev
