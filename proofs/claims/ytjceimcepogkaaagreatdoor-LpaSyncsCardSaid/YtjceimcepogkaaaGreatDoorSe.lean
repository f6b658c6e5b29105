/- What the functions of settle compute: one's own table. -/
import Derived.Test.YtjceimcepogkaaaGreatDoorAd
import Derived.Test.YtjceimcepogkaaaGreatDoorKq
namespace Go.Proofs.YtjceimcepogkaaaGreatDoor.Ev
open Go
attribute [local congr] ob_congr sq_congr cd_congr ite_congr1 iter_congr it1_congr jumps_congr
set_option maxRecDepth 100000
set_option linter.unusedSimpArgs false
set_option linter.unusedVariables false

abbrev shR : Sh := .cons cU (.cons cI (.cons cI .nil))
abbrev shRs : Sh := .arr 16 shR
abbrev rowD (a b c : Int) : D := .cons (dU a) (.cons (dI b) (.cons (dI c) .nil))
abbrev rowsD (d p n : Nat → Int) : D := .arr 16 shR fun i => .cons (dU (d i)) (.cons (dI (p i)) (.cons (dI (n i)) .nil))
abbrev shK : Sh := .cons cI (.cons shC (.cons (.arr 16 shT) .nil))
abbrev knD (self up : Int) (c : Nat → Int) (tD tP : Nat → Nat → Int) : D := .cons (dI self) (.cons (costsD up c) (.cons (.arr 16 shT fun n => treeD (tD n) (tP n)) .nil))
structure Kn where
  self : Int
  up : Int
  c : Nat → Int
  tD : Nat → Nat → Int
  tP : Nat → Nat → Int
structure Rw where
  d : Nat → Int
  p : Nat → Int
  n : Nat → Int
theorem setN_row (d p n : Nat → Int) (i : Nat) (a b c : Int) : setN (fun i => D.cons (.s (.int .u32 (d i))) (.cons (.s (.int .i64 (p i))) (.cons (.s (.int .i64 (n i))) .nil))) i (.cons (.s (.int .u32 a)) (.cons (.s (.int .i64 b)) (.cons (.s (.int .i64 c)) .nil))) =
    fun j => .cons (.s (.int .u32 (setN d i a j))) (.cons (.s (.int .i64 (setN p i b j))) (.cons (.s (.int .i64 (setN n i c j))) .nil)) :=
  funext fun j => by by_cases h : j = i <;> simp [setN, h]
def rowNone (a b c : Int) : Bool := (a == 4294967295) && ((b == -1) && ((c == -1) && true))
theorem row_eqv (a b c : Int) : (D.cons (.s (.int .u32 a)) (.cons (.s (.int .i64 b)) (.cons (.s (.int .i64 c)) .nil))).eqv (.cons (.s (.int .u32 4294967295)) (.cons (.s (.int .i64 (-1))) (.cons (.s (.int .i64 (-1))) .nil))) = rowNone a b c := nr rfl

theorem none_ev (k : Nat) : evF Tryz.prog env xt (k+1) 83 [] = some (.d (rowD 4294967295 (-1) (-1))) := by
  rw [evF_eq Tryz.func83 (show Tryz.f83.body = some _ from rfl) rfl rfl rfl (by show 0 ≤ 2; decide)]
  simp (decide := true) only [Tryz.f83, rid, ↓sBp, sBq, List.all_cons, List.all_nil, List.map_cons, List.map_nil, D.shape, Sh.sub, Sh.size, List.getElem?_cons_zero, List.getElem?_cons_succ, Option.bind_some, Option.bind_none, Option.getD_some, Option.getD_none, V.keysIn, V.kill, V.has, decide_eq_true_eq, beq_iff_eq, bne_iff_ne, ne_eq, Bool.not_eq_true', Bool.and_true, Bool.and_self, Bool.true_and, if_true, if_false, reduceIte, Bool.false_eq_true, decide_true, decide_false, beq_self_eq_true, Bool.not_true, Bool.not_false, true_and, and_true, and_self, List.append_assoc, List.nil_append, List.cons_append, Int.toNat_natCast, ck, Int.cast_ofNat_Int, Int.reduceToNat, bne_self_eq_false, Bool.or_false, Bool.false_or, Bool.false_and, Bool.and_false, Bool.or_true, Bool.true_or]
theorem sright_ev (k : Nat) (c : Int) : evF Tryz.prog env xt (k+1) 158 [.d (.s (.int .u32 (c)))] = some (.d (.s (.bool (decide (1 ≤ c) && decide (c ≤ 65536))))) := by
  rw [evF_eq Tryz.func158 (show Tryz.f158.body = some _ from rfl) rfl rfl rfl (by show 1 ≤ 9; decide)]
  by_cases h : 1 ≤ c
  · simp (decide := true) only [h, Tryz.f158, rid, ↓sBp, sBq, List.all_cons, List.all_nil, List.map_cons, List.map_nil, D.shape, Sh.sub, Sh.size, List.getElem?_cons_zero, List.getElem?_cons_succ, Option.bind_some, Option.bind_none, Option.getD_some, Option.getD_none, V.keysIn, V.kill, V.has, decide_eq_true_eq, beq_iff_eq, bne_iff_ne, ne_eq, Bool.not_eq_true', Bool.and_true, Bool.and_self, Bool.true_and, if_true, if_false, reduceIte, Bool.false_eq_true, decide_true, decide_false, beq_self_eq_true, Bool.not_true, Bool.not_false, true_and, and_true, and_self, List.append_assoc, List.nil_append, List.cons_append, Int.toNat_natCast, ck, Int.cast_ofNat_Int, Int.reduceToNat, bne_self_eq_false, Bool.or_false, Bool.false_or, Bool.false_and, Bool.and_false, Bool.or_true, Bool.true_or]
  · simp (decide := true) only [h, Tryz.f158, rid, ↓sBp, sBq, List.all_cons, List.all_nil, List.map_cons, List.map_nil, D.shape, Sh.sub, Sh.size, List.getElem?_cons_zero, List.getElem?_cons_succ, Option.bind_some, Option.bind_none, Option.getD_some, Option.getD_none, V.keysIn, V.kill, V.has, decide_eq_true_eq, beq_iff_eq, bne_iff_ne, ne_eq, Bool.not_eq_true', Bool.and_true, Bool.and_self, Bool.true_and, if_true, if_false, reduceIte, Bool.false_eq_true, decide_true, decide_false, beq_self_eq_true, Bool.not_true, Bool.not_false, true_and, and_true, and_self, List.append_assoc, List.nil_append, List.cons_append, Int.toNat_natCast, ck, Int.cast_ofNat_Int, Int.reduceToNat, bne_self_eq_false, Bool.or_false, Bool.false_or, Bool.false_and, Bool.and_false, Bool.or_true, Bool.true_or]
theorem short_ev (k : Nat) (d : Int) : evF Tryz.prog env xt (k+1) 159 [.d (.s (.int .u32 (d)))] = some (.d (.s (.bool (decide (d ≤ 983040))))) := by
  rw [evF_eq Tryz.func159 (show Tryz.f159.body = some _ from rfl) rfl rfl rfl (by show 1 ≤ 5; decide)]
  simp (decide := true) only [Tryz.f159, rid, ↓sBp, sBq, List.all_cons, List.all_nil, List.map_cons, List.map_nil, D.shape, Sh.sub, Sh.size, List.getElem?_cons_zero, List.getElem?_cons_succ, Option.bind_some, Option.bind_none, Option.getD_some, Option.getD_none, V.keysIn, V.kill, V.has, decide_eq_true_eq, beq_iff_eq, bne_iff_ne, ne_eq, Bool.not_eq_true', Bool.and_true, Bool.and_self, Bool.true_and, if_true, if_false, reduceIte, Bool.false_eq_true, decide_true, decide_false, beq_self_eq_true, Bool.not_true, Bool.not_false, true_and, and_true, and_self, List.append_assoc, List.nil_append, List.cons_append, Int.toNat_natCast, ck, Int.cast_ofNat_Int, Int.reduceToNat, bne_self_eq_false, Bool.or_false, Bool.false_or, Bool.false_and, Bool.and_false, Bool.or_true, Bool.true_or]
theorem rshort_ev (k : Nat) (d : Int) : evF Tryz.prog env xt (k+1) 140 [.d (.s (.int .u32 (d)))] = some (.d (.s (.bool (decide (d ≤ 983040))))) := by
  rw [evF_eq Tryz.func140 (show Tryz.f140.body = some _ from rfl) rfl rfl rfl (by show 1 ≤ 5; decide)]
  simp (decide := true) only [Tryz.f140, rid, ↓sBp, sBq, List.all_cons, List.all_nil, List.map_cons, List.map_nil, D.shape, Sh.sub, Sh.size, List.getElem?_cons_zero, List.getElem?_cons_succ, Option.bind_some, Option.bind_none, Option.getD_some, Option.getD_none, V.keysIn, V.kill, V.has, decide_eq_true_eq, beq_iff_eq, bne_iff_ne, ne_eq, Bool.not_eq_true', Bool.and_true, Bool.and_self, Bool.true_and, if_true, if_false, reduceIte, Bool.false_eq_true, decide_true, decide_false, beq_self_eq_true, Bool.not_true, Bool.not_false, true_and, and_true, and_self, List.append_assoc, List.nil_append, List.cons_append, Int.toNat_natCast, ck, Int.cast_ofNat_Int, Int.reduceToNat, bne_self_eq_false, Bool.or_false, Bool.false_or, Bool.false_and, Bool.and_false, Bool.or_true, Bool.true_or]
theorem empty_ev (k : Nat) (r : Int) : evF Tryz.prog env xt (k+2) 30 [.d (.s (.int .i64 (r)))] = some (.d (rowsD (putN farD r 0) farP farP)) := by
  rw [evF_eq Tryz.func30 (show Tryz.f30.body = some _ from rfl) rfl rfl rfl (by show 1 ≤ 18; decide)]
  simp (decide := true) only [Tryz.f30, rid, kl30_3, ↓sBp, sBq, List.all_cons, List.all_nil, List.map_cons, List.map_nil, D.shape, Sh.sub, Sh.size, List.getElem?_cons_zero, List.getElem?_cons_succ, Option.bind_some, Option.bind_none, Option.getD_some, Option.getD_none, V.keysIn, V.kill, V.has, decide_eq_true_eq, beq_iff_eq, bne_iff_ne, ne_eq, Bool.not_eq_true', Bool.and_true, Bool.and_self, Bool.true_and, if_true, if_false, reduceIte, Bool.false_eq_true, decide_true, decide_false, beq_self_eq_true, Bool.not_true, Bool.not_false, true_and, and_true, and_self, List.append_assoc, List.nil_append, List.cons_append, Int.toNat_natCast, ck, Int.cast_ofNat_Int, Int.reduceToNat, bne_self_eq_false, Bool.or_false, Bool.false_or, Bool.false_and, Bool.and_false, Bool.or_true, Bool.true_or]
  rw [iter_run (S := fun k => ⟨tab .junk [(0, .d (.s (.int .i64 (r)))), (2, .ptr 2 (shRs) [] (shRs)), (3, .ptr 3 (shRs) [] (shRs)), (5, .d (.s (.int .i64 (k))))], tab none [(2, some (.box (Z40))), (3, some (.box (rowsD (fillTo (fun _ => 4294967295) (fun _ => 0) k) (fillTo (fun _ => -1) (fun _ => 0) k) (fillTo (fun _ => -1) (fun _ => 0) k))))]⟩) (n := 16) (h0 := ?h0) (hn := lt_loopFuel (by decide)) (step := ?step)]
  case h0 => simp only [fillTo_zero]; rfl
  case step =>
    intro k hk
    have hk1 : (k : Int) < 16 := by omega
    have hk0 : (0 : Int) ≤ k := by omega
    have hkw := wrap_succ k (by omega)
    simp (decide := true) only [hk1, hk0, hkw, none_ev, setN_row, fillTo_set (fun _ => (4294967295 : Int)), fillTo_set (fun _ => (-1 : Int)), Tryz.f30, rid, kl30_3, ↓sBp, sBq, List.all_cons, List.all_nil, List.map_cons, List.map_nil, D.shape, Sh.sub, Sh.size, List.getElem?_cons_zero, List.getElem?_cons_succ, Option.bind_some, Option.bind_none, Option.getD_some, Option.getD_none, V.keysIn, V.kill, V.has, decide_eq_true_eq, beq_iff_eq, bne_iff_ne, ne_eq, Bool.not_eq_true', Bool.and_true, Bool.and_self, Bool.true_and, if_true, if_false, reduceIte, Bool.false_eq_true, decide_true, decide_false, beq_self_eq_true, Bool.not_true, Bool.not_false, true_and, and_true, and_self, List.append_assoc, List.nil_append, List.cons_append, Int.toNat_natCast, ck, Int.cast_ofNat_Int, Int.reduceToNat, bne_self_eq_false, Bool.or_false, Bool.false_or, Bool.false_and, Bool.and_false, Bool.or_true, Bool.true_or]
  by_cases h : right r = true
  · have h2 := right_nn h
    simp (decide := true) only [h, h2, right_ev, setN_row, setN_self, putN, Tryz.f30, rid, kl30_3, ↓sBp, sBq, List.all_cons, List.all_nil, List.map_cons, List.map_nil, D.shape, Sh.sub, Sh.size, List.getElem?_cons_zero, List.getElem?_cons_succ, Option.bind_some, Option.bind_none, Option.getD_some, Option.getD_none, V.keysIn, V.kill, V.has, decide_eq_true_eq, beq_iff_eq, bne_iff_ne, ne_eq, Bool.not_eq_true', Bool.and_true, Bool.and_self, Bool.true_and, if_true, if_false, reduceIte, Bool.false_eq_true, decide_true, decide_false, beq_self_eq_true, Bool.not_true, Bool.not_false, true_and, and_true, and_self, List.append_assoc, List.nil_append, List.cons_append, Int.toNat_natCast, ck, Int.cast_ofNat_Int, Int.reduceToNat, bne_self_eq_false, Bool.or_false, Bool.false_or, Bool.false_and, Bool.and_false, Bool.or_true, Bool.true_or]
  · simp (decide := true) only [h, right_ev, putN, Tryz.f30, rid, kl30_3, ↓sBp, sBq, List.all_cons, List.all_nil, List.map_cons, List.map_nil, D.shape, Sh.sub, Sh.size, List.getElem?_cons_zero, List.getElem?_cons_succ, Option.bind_some, Option.bind_none, Option.getD_some, Option.getD_none, V.keysIn, V.kill, V.has, decide_eq_true_eq, beq_iff_eq, bne_iff_ne, ne_eq, Bool.not_eq_true', Bool.and_true, Bool.and_self, Bool.true_and, if_true, if_false, reduceIte, Bool.false_eq_true, decide_true, decide_false, beq_self_eq_true, Bool.not_true, Bool.not_false, true_and, and_true, and_self, List.append_assoc, List.nil_append, List.cons_append, Int.toNat_natCast, ck, Int.cast_ofNat_Int, Int.reduceToNat, bne_self_eq_false, Bool.or_false, Bool.false_or, Bool.false_and, Bool.and_false, Bool.or_true, Bool.true_or]
def cut (l : Nat → Int) : Nat → Int := fillTo l (fun _ => 0) 16
theorem cut_id {l : Nat → Int} (h : ∀ i, 16 ≤ i → l i = 0) : cut l = l := funext fun i => by
  unfold cut fillTo
  split
  · rfl
  · exact (h i (by omega)).symm
theorem tree_ev (k : Nat) (d p n : Nat → Int) : evF Tryz.prog env xt (k+1) 53 [.d (rowsD d p n)] = some (.d (treeD (cut d) (cut p))) := by
  rw [evF_eq Tryz.func53 (show Tryz.f53.body = some _ from rfl) rfl rfl rfl (by show 1 ≤ 20; decide)]
  simp (decide := true) only [Tryz.f53, rid, kl53_3, ↓sBp, sBq, List.all_cons, List.all_nil, List.map_cons, List.map_nil, D.shape, Sh.sub, Sh.size, List.getElem?_cons_zero, List.getElem?_cons_succ, Option.bind_some, Option.bind_none, Option.getD_some, Option.getD_none, V.keysIn, V.kill, V.has, decide_eq_true_eq, beq_iff_eq, bne_iff_ne, ne_eq, Bool.not_eq_true', Bool.and_true, Bool.and_self, Bool.true_and, if_true, if_false, reduceIte, Bool.false_eq_true, decide_true, decide_false, beq_self_eq_true, Bool.not_true, Bool.not_false, true_and, and_true, and_self, List.append_assoc, List.nil_append, List.cons_append, Int.toNat_natCast, ck, Int.cast_ofNat_Int, Int.reduceToNat, bne_self_eq_false, Bool.or_false, Bool.false_or, Bool.false_and, Bool.and_false, Bool.or_true, Bool.true_or]
  rw [iter_run (S := fun k => ⟨tab .junk [(2, .ptr 2 (shT) [] (shT)), (3, .ptr 3 (shT) [] (shT)), (6, .d (rowsD d p n)), (7, .d (.s (.int .i64 (k))))], tab none [(2, some (.box (Z33))), (3, some (.box (treeD (fillTo d (fun _ => 0) k) (fillTo p (fun _ => 0) k))))]⟩) (n := 16) (h0 := ?h0) (hn := lt_loopFuel (by decide)) (step := ?step)]
  case h0 => simp only [fillTo_zero]; rfl
  case step =>
    intro k hk
    have hk1 : (k : Int) < 16 := by omega
    have hk0 : (0 : Int) ≤ k := by omega
    have hkw := wrap_succ k (by omega)
    simp (decide := true) only [hk1, hk0, hkw, setN_ent, fillTo_set d, fillTo_set p, Tryz.f53, rid, kl53_3, ↓sBp, sBq, List.all_cons, List.all_nil, List.map_cons, List.map_nil, D.shape, Sh.sub, Sh.size, List.getElem?_cons_zero, List.getElem?_cons_succ, Option.bind_some, Option.bind_none, Option.getD_some, Option.getD_none, V.keysIn, V.kill, V.has, decide_eq_true_eq, beq_iff_eq, bne_iff_ne, ne_eq, Bool.not_eq_true', Bool.and_true, Bool.and_self, Bool.true_and, if_true, if_false, reduceIte, Bool.false_eq_true, decide_true, decide_false, beq_self_eq_true, Bool.not_true, Bool.not_false, true_and, and_true, and_self, List.append_assoc, List.nil_append, List.cons_append, Int.toNat_natCast, ck, Int.cast_ofNat_Int, Int.reduceToNat, bne_self_eq_false, Bool.or_false, Bool.false_or, Bool.false_and, Bool.and_false, Bool.or_true, Bool.true_or]
  simp (decide := true) only [cut, Tryz.f53, rid, kl53_3, ↓sBp, sBq, List.all_cons, List.all_nil, List.map_cons, List.map_nil, D.shape, Sh.sub, Sh.size, List.getElem?_cons_zero, List.getElem?_cons_succ, Option.bind_some, Option.bind_none, Option.getD_some, Option.getD_none, V.keysIn, V.kill, V.has, decide_eq_true_eq, beq_iff_eq, bne_iff_ne, ne_eq, Bool.not_eq_true', Bool.and_true, Bool.and_self, Bool.true_and, if_true, if_false, reduceIte, Bool.false_eq_true, decide_true, decide_false, beq_self_eq_true, Bool.not_true, Bool.not_false, true_and, and_true, and_self, List.append_assoc, List.nil_append, List.cons_append, Int.toNat_natCast, ck, Int.cast_ofNat_Int, Int.reduceToNat, bne_self_eq_false, Bool.or_false, Bool.false_or, Bool.false_and, Bool.and_false, Bool.or_true, Bool.true_or]

def kc (k : Kn) (n : Int) : Int := ofF k.up k.c n
def tol (k : Kn) (n j : Int) : Int := gd (k.tD n.toNat) j
def tpr (k : Kn) (n j : Int) : Int := gp (k.tP n.toNat) j
def alPre (k : Kn) (n j : Int) : Bool := right j && (right n && ((j != k.self) && ((n != k.self) && ((decide (1 ≤ kc k n) && decide (kc k n ≤ 65536)) && ((tol k n j != 4294967295) && decide (tol k n j ≤ 983040))))))
def alD (k : Kn) (n j : Int) : Int := IntKind.u32.wrap (tol k n j + kc k n)
def alW (k : Kn) (n j : Int) : Int := wV (k.tD n.toNat) (k.tP n.toNat) j
def alMid (k : Kn) (n j : Int) : Bool := wOk (k.tD n.toNat) (k.tP n.toNat) j && (decide (alW k n j ≤ 65536) && ((tpr k n j != k.self) && decide (alD k n j ≤ 983040)))
def alEnd (k : Kn) (r : Rw) (n j : Int) : Bool := (r.n (tpr k n j).toNat == n) && (r.d (tpr k n j).toNat == IntKind.u32.wrap (alD k n j - alW k n j))
def alOk (k : Kn) (r : Rw) (n j : Int) : Bool := alPre k n j && (if (j == n) = true then tol k n j == 0 else alMid k n j && alEnd k r n j)
def alHas (k : Kn) (n j : Int) : Bool := alPre k n j && ((j == n) || alMid k n j)
def alRd (k : Kn) (n j : Int) : Int := if alHas k n j = true then alD k n j else 0
def alRp (k : Kn) (n j : Int) : Int := if alHas k n j = true then (if (j == n) = true then k.self else tpr k n j) else 0
def alRn (k : Kn) (n j : Int) : Int := if alHas k n j = true then n else 0

set_option maxHeartbeats 8000000 in
theorem allowed_ev (K : Nat) (self up : Int) (c : Nat → Int) (tD tP : Nat → Nat → Int) (rD rP rN : Nat → Int) (n j : Int) :
    evF Tryz.prog env xt (K+4) 154 [.d (knD self up c tD tP), .d (rowsD rD rP rN), .d (.s (.int .i64 (n))), .d (.s (.int .i64 (j)))] =
      some (.tcons (.d (rowD (alRd ⟨self, up, c, tD, tP⟩ n j) (alRp ⟨self, up, c, tD, tP⟩ n j) (alRn ⟨self, up, c, tD, tP⟩ n j))) (.tcons (.d (.s (.bool (alOk ⟨self, up, c, tD, tP⟩ ⟨rD, rP, rN⟩ n j)))) .tnil)) := by
  rw [evF_eq Tryz.func154 (show Tryz.f154.body = some _ from rfl) rfl rfl rfl (by show 4 ≤ 127; decide)]
  rcases Bool.eq_false_or_eq_true (right j) with h1 | h1
  case inr => simp (decide := true) only [right_ev, h1, alRd, alRp, alRn, alOk, alHas, alPre, Tryz.f154, rid, dp154_10, dp154_15, ↓sBp, sBq, List.all_cons, List.all_nil, List.map_cons, List.map_nil, D.shape, Sh.sub, Sh.size, List.getElem?_cons_zero, List.getElem?_cons_succ, Option.bind_some, Option.bind_none, Option.getD_some, Option.getD_none, V.keysIn, V.kill, V.has, decide_eq_true_eq, beq_iff_eq, bne_iff_ne, ne_eq, Bool.not_eq_true', Bool.and_true, Bool.and_self, Bool.true_and, if_true, if_false, reduceIte, Bool.false_eq_true, decide_true, decide_false, beq_self_eq_true, Bool.not_true, Bool.not_false, true_and, and_true, and_self, List.append_assoc, List.nil_append, List.cons_append, Int.toNat_natCast, ck, Int.cast_ofNat_Int, Int.reduceToNat, bne_self_eq_false, Bool.or_false, Bool.false_or, Bool.false_and, Bool.and_false, Bool.or_true, Bool.true_or]
  rcases Bool.eq_false_or_eq_true (right n) with h2 | h2
  case inr => simp (decide := true) only [right_ev, h1, h2, alRd, alRp, alRn, alOk, alHas, alPre, Tryz.f154, rid, dp154_10, dp154_15, ↓sBp, sBq, List.all_cons, List.all_nil, List.map_cons, List.map_nil, D.shape, Sh.sub, Sh.size, List.getElem?_cons_zero, List.getElem?_cons_succ, Option.bind_some, Option.bind_none, Option.getD_some, Option.getD_none, V.keysIn, V.kill, V.has, decide_eq_true_eq, beq_iff_eq, bne_iff_ne, ne_eq, Bool.not_eq_true', Bool.and_true, Bool.and_self, Bool.true_and, if_true, if_false, reduceIte, Bool.false_eq_true, decide_true, decide_false, beq_self_eq_true, Bool.not_true, Bool.not_false, true_and, and_true, and_self, List.append_assoc, List.nil_append, List.cons_append, Int.toNat_natCast, ck, Int.cast_ofNat_Int, Int.reduceToNat, bne_self_eq_false, Bool.or_false, Bool.false_or, Bool.false_and, Bool.and_false, Bool.or_true, Bool.true_or]
  have h22 := right_nn h2
  rcases Bool.eq_false_or_eq_true (j != self) with h3 | h3
  case inr =>
    have h3' : (j == self) = true := by simpa [bne] using h3
    simp (decide := true) only [right_ev, h1, h2, h3, h3', alRd, alRp, alRn, alOk, alHas, alPre, Tryz.f154, rid, dp154_10, dp154_15, ↓sBp, sBq, List.all_cons, List.all_nil, List.map_cons, List.map_nil, D.shape, Sh.sub, Sh.size, List.getElem?_cons_zero, List.getElem?_cons_succ, Option.bind_some, Option.bind_none, Option.getD_some, Option.getD_none, V.keysIn, V.kill, V.has, decide_eq_true_eq, beq_iff_eq, bne_iff_ne, ne_eq, Bool.not_eq_true', Bool.and_true, Bool.and_self, Bool.true_and, if_true, if_false, reduceIte, Bool.false_eq_true, decide_true, decide_false, beq_self_eq_true, Bool.not_true, Bool.not_false, true_and, and_true, and_self, List.append_assoc, List.nil_append, List.cons_append, Int.toNat_natCast, ck, Int.cast_ofNat_Int, Int.reduceToNat, bne_self_eq_false, Bool.or_false, Bool.false_or, Bool.false_and, Bool.and_false, Bool.or_true, Bool.true_or]
  have h3' : (j == self) = false := by simpa [bne] using h3
  rcases Bool.eq_false_or_eq_true (n != self) with h4 | h4
  case inr =>
    have h4' : (n == self) = true := by simpa [bne] using h4
    simp (decide := true) only [right_ev, h1, h2, h3, h3', h4, h4', alRd, alRp, alRn, alOk, alHas, alPre, Tryz.f154, rid, dp154_10, dp154_15, ↓sBp, sBq, List.all_cons, List.all_nil, List.map_cons, List.map_nil, D.shape, Sh.sub, Sh.size, List.getElem?_cons_zero, List.getElem?_cons_succ, Option.bind_some, Option.bind_none, Option.getD_some, Option.getD_none, V.keysIn, V.kill, V.has, decide_eq_true_eq, beq_iff_eq, bne_iff_ne, ne_eq, Bool.not_eq_true', Bool.and_true, Bool.and_self, Bool.true_and, if_true, if_false, reduceIte, Bool.false_eq_true, decide_true, decide_false, beq_self_eq_true, Bool.not_true, Bool.not_false, true_and, and_true, and_self, List.append_assoc, List.nil_append, List.cons_append, Int.toNat_natCast, ck, Int.cast_ofNat_Int, Int.reduceToNat, bne_self_eq_false, Bool.or_false, Bool.false_or, Bool.false_and, Bool.and_false, Bool.or_true, Bool.true_or]
  have h4' : (n == self) = false := by simpa [bne] using h4
  rcases Bool.eq_false_or_eq_true (decide (1 ≤ ofF up c n) && decide (ofF up c n ≤ 65536)) with h5 | h5
  case inr =>
    have hpre : alPre ⟨self, up, c, tD, tP⟩ n j = false := by
      unfold alPre
      show (right j && (right n && ((j != self) && ((n != self) && ((decide (1 ≤ ofF up c n) && decide (ofF up c n ≤ 65536)) && ((gd (tD n.toNat) j != 4294967295) && decide (gd (tD n.toNat) j ≤ 983040))))))) = false
      rw [h1, h2, h3, h4, h5]; rfl
    simp (decide := true) only [right_ev, h1, h2, h22, h3, h3', h4, h4', of_ev, get_ev, sright_ev, h5, hpre, alRd, alRp, alRn, alOk, alHas, Tryz.f154, rid, dp154_10, dp154_15, ↓sBp, sBq, List.all_cons, List.all_nil, List.map_cons, List.map_nil, D.shape, Sh.sub, Sh.size, List.getElem?_cons_zero, List.getElem?_cons_succ, Option.bind_some, Option.bind_none, Option.getD_some, Option.getD_none, V.keysIn, V.kill, V.has, decide_eq_true_eq, beq_iff_eq, bne_iff_ne, ne_eq, Bool.not_eq_true', Bool.and_true, Bool.and_self, Bool.true_and, if_true, if_false, reduceIte, Bool.false_eq_true, decide_true, decide_false, beq_self_eq_true, Bool.not_true, Bool.not_false, true_and, and_true, and_self, List.append_assoc, List.nil_append, List.cons_append, Int.toNat_natCast, ck, Int.cast_ofNat_Int, Int.reduceToNat, bne_self_eq_false, Bool.or_false, Bool.false_or, Bool.false_and, Bool.and_false, Bool.or_true, Bool.true_or]
  rcases Bool.eq_false_or_eq_true (gd (tD n.toNat) j != 4294967295) with h6 | h6
  case inr =>
    have h6' : (gd (tD n.toNat) j == 4294967295) = true := by simpa [bne] using h6
    simp (decide := true) only [right_ev, h1, h2, h22, h3, h3', h4, h4', of_ev, get_ev, sright_ev, h5, h6, h6', kc, tol, alRd, alRp, alRn, alOk, alHas, alPre, Tryz.f154, rid, dp154_10, dp154_15, ↓sBp, sBq, List.all_cons, List.all_nil, List.map_cons, List.map_nil, D.shape, Sh.sub, Sh.size, List.getElem?_cons_zero, List.getElem?_cons_succ, Option.bind_some, Option.bind_none, Option.getD_some, Option.getD_none, V.keysIn, V.kill, V.has, decide_eq_true_eq, beq_iff_eq, bne_iff_ne, ne_eq, Bool.not_eq_true', Bool.and_true, Bool.and_self, Bool.true_and, if_true, if_false, reduceIte, Bool.false_eq_true, decide_true, decide_false, beq_self_eq_true, Bool.not_true, Bool.not_false, true_and, and_true, and_self, List.append_assoc, List.nil_append, List.cons_append, Int.toNat_natCast, ck, Int.cast_ofNat_Int, Int.reduceToNat, bne_self_eq_false, Bool.or_false, Bool.false_or, Bool.false_and, Bool.and_false, Bool.or_true, Bool.true_or]
  have h6' : (gd (tD n.toNat) j == 4294967295) = false := by simpa [bne] using h6
  by_cases h7 : gd (tD n.toNat) j ≤ 983040
  case neg => simp (decide := true) only [right_ev, h1, h2, h22, h3, h3', h4, h4', of_ev, get_ev, sright_ev, h5, h6, h6', short_ev, h7, kc, tol, alRd, alRp, alRn, alOk, alHas, alPre, Tryz.f154, rid, dp154_10, dp154_15, ↓sBp, sBq, List.all_cons, List.all_nil, List.map_cons, List.map_nil, D.shape, Sh.sub, Sh.size, List.getElem?_cons_zero, List.getElem?_cons_succ, Option.bind_some, Option.bind_none, Option.getD_some, Option.getD_none, V.keysIn, V.kill, V.has, decide_eq_true_eq, beq_iff_eq, bne_iff_ne, ne_eq, Bool.not_eq_true', Bool.and_true, Bool.and_self, Bool.true_and, if_true, if_false, reduceIte, Bool.false_eq_true, decide_true, decide_false, beq_self_eq_true, Bool.not_true, Bool.not_false, true_and, and_true, and_self, List.append_assoc, List.nil_append, List.cons_append, Int.toNat_natCast, ck, Int.cast_ofNat_Int, Int.reduceToNat, bne_self_eq_false, Bool.or_false, Bool.false_or, Bool.false_and, Bool.and_false, Bool.or_true, Bool.true_or]
  have hpre : alPre ⟨self, up, c, tD, tP⟩ n j = true := by
    unfold alPre
    show (right j && (right n && ((j != self) && ((n != self) && ((decide (1 ≤ ofF up c n) && decide (ofF up c n ≤ 65536)) && ((gd (tD n.toNat) j != 4294967295) && decide (gd (tD n.toNat) j ≤ 983040))))))) = true
    rw [h1, h2, h3, h4, h5, h6, decide_eq_true h7]; rfl
  have hD : IntKind.u32.wrap (gd (tD n.toNat) j + ofF up c n) = alD ⟨self, up, c, tD, tP⟩ n j := rfl
  have hp : gp (tP n.toNat) j = tpr ⟨self, up, c, tD, tP⟩ n j := rfl
  rcases Bool.eq_false_or_eq_true (j == n) with h8 | h8
  case inl =>
    have ht : (tol ⟨self, up, c, tD, tP⟩ n j == 0) = (gd (tD n.toNat) j == 0) := rfl
    simp (decide := true) only [right_ev, h1, h2, h22, h3, h3', h4, h4', of_ev, get_ev, sright_ev, h5, h6, h6', short_ev, h7, hD, h8, hpre, ht, alRd, alRp, alRn, alOk, alHas, Tryz.f154, rid, dp154_10, dp154_15, ↓sBp, sBq, List.all_cons, List.all_nil, List.map_cons, List.map_nil, D.shape, Sh.sub, Sh.size, List.getElem?_cons_zero, List.getElem?_cons_succ, Option.bind_some, Option.bind_none, Option.getD_some, Option.getD_none, V.keysIn, V.kill, V.has, decide_eq_true_eq, beq_iff_eq, bne_iff_ne, ne_eq, Bool.not_eq_true', Bool.and_true, Bool.and_self, Bool.true_and, if_true, if_false, reduceIte, Bool.false_eq_true, decide_true, decide_false, beq_self_eq_true, Bool.not_true, Bool.not_false, true_and, and_true, and_self, List.append_assoc, List.nil_append, List.cons_append, Int.toNat_natCast, ck, Int.cast_ofNat_Int, Int.reduceToNat, bne_self_eq_false, Bool.or_false, Bool.false_or, Bool.false_and, Bool.and_false, Bool.or_true, Bool.true_or]
  have hw : wV (tD n.toNat) (tP n.toNat) j = alW ⟨self, up, c, tD, tP⟩ n j := rfl
  have hm : alMid ⟨self, up, c, tD, tP⟩ n j = (wOk (tD n.toNat) (tP n.toNat) j && (decide (alW ⟨self, up, c, tD, tP⟩ n j ≤ 65536) && ((tpr ⟨self, up, c, tD, tP⟩ n j != self) && decide (alD ⟨self, up, c, tD, tP⟩ n j ≤ 983040)))) := rfl
  rcases Bool.eq_false_or_eq_true (wOk (tD n.toNat) (tP n.toNat) j) with h9 | h9
  case inr =>
    rw [h9] at hm
    simp (decide := true) only [right_ev, h1, h2, h22, h3, h3', h4, h4', of_ev, get_ev, sright_ev, h5, h6, h6', short_ev, h7, hD, hp, h8, hpre, weight_ev, wR, h9, hm, alRd, alRp, alRn, alOk, alHas, Tryz.f154, rid, dp154_10, dp154_15, ↓sBp, sBq, List.all_cons, List.all_nil, List.map_cons, List.map_nil, D.shape, Sh.sub, Sh.size, List.getElem?_cons_zero, List.getElem?_cons_succ, Option.bind_some, Option.bind_none, Option.getD_some, Option.getD_none, V.keysIn, V.kill, V.has, decide_eq_true_eq, beq_iff_eq, bne_iff_ne, ne_eq, Bool.not_eq_true', Bool.and_true, Bool.and_self, Bool.true_and, if_true, if_false, reduceIte, Bool.false_eq_true, decide_true, decide_false, beq_self_eq_true, Bool.not_true, Bool.not_false, true_and, and_true, and_self, List.append_assoc, List.nil_append, List.cons_append, Int.toNat_natCast, ck, Int.cast_ofNat_Int, Int.reduceToNat, bne_self_eq_false, Bool.or_false, Bool.false_or, Bool.false_and, Bool.and_false, Bool.or_true, Bool.true_or]
  by_cases h10 : alW ⟨self, up, c, tD, tP⟩ n j ≤ 65536
  case neg =>
    have h10' : decide (alW ⟨self, up, c, tD, tP⟩ n j ≤ 65536) = false := decide_eq_false h10
    have h10'' : alW ⟨self, up, c, tD, tP⟩ n j > 65536 := by omega
    rw [h9, h10'] at hm
    simp (decide := true) only [right_ev, h1, h2, h22, h3, h3', h4, h4', of_ev, get_ev, sright_ev, h5, h6, h6', short_ev, h7, hD, hp, h8, hpre, weight_ev, wR, hw, h9, h10, h10'', hm, alRd, alRp, alRn, alOk, alHas, Tryz.f154, rid, dp154_10, dp154_15, ↓sBp, sBq, List.all_cons, List.all_nil, List.map_cons, List.map_nil, D.shape, Sh.sub, Sh.size, List.getElem?_cons_zero, List.getElem?_cons_succ, Option.bind_some, Option.bind_none, Option.getD_some, Option.getD_none, V.keysIn, V.kill, V.has, decide_eq_true_eq, beq_iff_eq, bne_iff_ne, ne_eq, Bool.not_eq_true', Bool.and_true, Bool.and_self, Bool.true_and, if_true, if_false, reduceIte, Bool.false_eq_true, decide_true, decide_false, beq_self_eq_true, Bool.not_true, Bool.not_false, true_and, and_true, and_self, List.append_assoc, List.nil_append, List.cons_append, Int.toNat_natCast, ck, Int.cast_ofNat_Int, Int.reduceToNat, bne_self_eq_false, Bool.or_false, Bool.false_or, Bool.false_and, Bool.and_false, Bool.or_true, Bool.true_or]
  have h10' : decide (alW ⟨self, up, c, tD, tP⟩ n j ≤ 65536) = true := decide_eq_true h10
  have h10'' : ¬ 65536 < alW ⟨self, up, c, tD, tP⟩ n j := by omega
  rcases Bool.eq_false_or_eq_true (tpr ⟨self, up, c, tD, tP⟩ n j != self) with h11 | h11
  case inr =>
    have h11' : (tpr ⟨self, up, c, tD, tP⟩ n j == self) = true := by simpa [bne] using h11
    rw [h9, h10', h11] at hm
    simp (decide := true) only [right_ev, h1, h2, h22, h3, h3', h4, h4', of_ev, get_ev, sright_ev, h5, h6, h6', short_ev, h7, hD, hp, h8, hpre, weight_ev, wR, hw, h9, h10, h10'', h11, h11', hm, alRd, alRp, alRn, alOk, alHas, Tryz.f154, rid, dp154_10, dp154_15, ↓sBp, sBq, List.all_cons, List.all_nil, List.map_cons, List.map_nil, D.shape, Sh.sub, Sh.size, List.getElem?_cons_zero, List.getElem?_cons_succ, Option.bind_some, Option.bind_none, Option.getD_some, Option.getD_none, V.keysIn, V.kill, V.has, decide_eq_true_eq, beq_iff_eq, bne_iff_ne, ne_eq, Bool.not_eq_true', Bool.and_true, Bool.and_self, Bool.true_and, if_true, if_false, reduceIte, Bool.false_eq_true, decide_true, decide_false, beq_self_eq_true, Bool.not_true, Bool.not_false, true_and, and_true, and_self, List.append_assoc, List.nil_append, List.cons_append, Int.toNat_natCast, ck, Int.cast_ofNat_Int, Int.reduceToNat, bne_self_eq_false, Bool.or_false, Bool.false_or, Bool.false_and, Bool.and_false, Bool.or_true, Bool.true_or]
  have h11' : (tpr ⟨self, up, c, tD, tP⟩ n j == self) = false := by simpa [bne] using h11
  by_cases h12 : alD ⟨self, up, c, tD, tP⟩ n j ≤ 983040
  case neg =>
    have h12' : decide (alD ⟨self, up, c, tD, tP⟩ n j ≤ 983040) = false := decide_eq_false h12
    rw [h9, h10', h11, h12'] at hm
    simp (decide := true) only [right_ev, h1, h2, h22, h3, h3', h4, h4', of_ev, get_ev, sright_ev, h5, h6, h6', short_ev, h7, hD, hp, h8, hpre, weight_ev, wR, hw, h9, h10, h10'', h11, h11', h12, hm, alRd, alRp, alRn, alOk, alHas, Tryz.f154, rid, dp154_10, dp154_15, ↓sBp, sBq, List.all_cons, List.all_nil, List.map_cons, List.map_nil, D.shape, Sh.sub, Sh.size, List.getElem?_cons_zero, List.getElem?_cons_succ, Option.bind_some, Option.bind_none, Option.getD_some, Option.getD_none, V.keysIn, V.kill, V.has, decide_eq_true_eq, beq_iff_eq, bne_iff_ne, ne_eq, Bool.not_eq_true', Bool.and_true, Bool.and_self, Bool.true_and, if_true, if_false, reduceIte, Bool.false_eq_true, decide_true, decide_false, beq_self_eq_true, Bool.not_true, Bool.not_false, true_and, and_true, and_self, List.append_assoc, List.nil_append, List.cons_append, Int.toNat_natCast, ck, Int.cast_ofNat_Int, Int.reduceToNat, bne_self_eq_false, Bool.or_false, Bool.false_or, Bool.false_and, Bool.and_false, Bool.or_true, Bool.true_or]
  have h12' : decide (alD ⟨self, up, c, tD, tP⟩ n j ≤ 983040) = true := decide_eq_true h12
  rw [h9, h10', h11, h12'] at hm
  have hr : right (tpr ⟨self, up, c, tD, tP⟩ n j) = true := by
    unfold wOk at h9
    simp only [Bool.and_eq_true] at h9
    exact h9.2.1
  have hr2 := right_nn hr
  have he : alEnd ⟨self, up, c, tD, tP⟩ ⟨rD, rP, rN⟩ n j = ((rN (tpr ⟨self, up, c, tD, tP⟩ n j).toNat == n) && (rD (tpr ⟨self, up, c, tD, tP⟩ n j).toNat == IntKind.u32.wrap (alD ⟨self, up, c, tD, tP⟩ n j - alW ⟨self, up, c, tD, tP⟩ n j))) := rfl
  rcases Bool.eq_false_or_eq_true (rN (tpr ⟨self, up, c, tD, tP⟩ n j).toNat == n) with h13 | h13
  · simp (decide := true) only [right_ev, h1, h2, h22, h3, h3', h4, h4', of_ev, get_ev, sright_ev, h5, h6, h6', short_ev, h7, hD, hp, h8, hpre, weight_ev, wR, hw, h9, h10, h10'', h11, h11', h12, hm, hr, hr2, he, h13, alRd, alRp, alRn, alOk, alHas, Tryz.f154, rid, dp154_10, dp154_15, ↓sBp, sBq, List.all_cons, List.all_nil, List.map_cons, List.map_nil, D.shape, Sh.sub, Sh.size, List.getElem?_cons_zero, List.getElem?_cons_succ, Option.bind_some, Option.bind_none, Option.getD_some, Option.getD_none, V.keysIn, V.kill, V.has, decide_eq_true_eq, beq_iff_eq, bne_iff_ne, ne_eq, Bool.not_eq_true', Bool.and_true, Bool.and_self, Bool.true_and, if_true, if_false, reduceIte, Bool.false_eq_true, decide_true, decide_false, beq_self_eq_true, Bool.not_true, Bool.not_false, true_and, and_true, and_self, List.append_assoc, List.nil_append, List.cons_append, Int.toNat_natCast, ck, Int.cast_ofNat_Int, Int.reduceToNat, bne_self_eq_false, Bool.or_false, Bool.false_or, Bool.false_and, Bool.and_false, Bool.or_true, Bool.true_or]
  · simp (decide := true) only [right_ev, h1, h2, h22, h3, h3', h4, h4', of_ev, get_ev, sright_ev, h5, h6, h6', short_ev, h7, hD, hp, h8, hpre, weight_ev, wR, hw, h9, h10, h10'', h11, h11', h12, hm, hr, hr2, he, h13, alRd, alRp, alRn, alOk, alHas, Tryz.f154, rid, dp154_10, dp154_15, ↓sBp, sBq, List.all_cons, List.all_nil, List.map_cons, List.map_nil, D.shape, Sh.sub, Sh.size, List.getElem?_cons_zero, List.getElem?_cons_succ, Option.bind_some, Option.bind_none, Option.getD_some, Option.getD_none, V.keysIn, V.kill, V.has, decide_eq_true_eq, beq_iff_eq, bne_iff_ne, ne_eq, Bool.not_eq_true', Bool.and_true, Bool.and_self, Bool.true_and, if_true, if_false, reduceIte, Bool.false_eq_true, decide_true, decide_false, beq_self_eq_true, Bool.not_true, Bool.not_false, true_and, and_true, and_self, List.append_assoc, List.nil_append, List.cons_append, Int.toNat_natCast, ck, Int.cast_ofNat_Int, Int.reduceToNat, bne_self_eq_false, Bool.or_false, Bool.false_or, Bool.false_and, Bool.and_false, Bool.or_true, Bool.true_or]
end Go.Proofs.YtjceimcepogkaaaGreatDoor.Ev
