/- What the functions of diff compute. -/
import Derived.Test.YtjceimcepogkaaaGreatDoorNa
import Derived.Test.YtjceimcepogkaaaGreatDoorTr
import Derived.Test.YtjceimcepogkaaaGreatDoorKd
import Derived.Test.YtjceimcepogkaaaGreatDoorXo
namespace Go.Proofs.YtjceimcepogkaaaGreatDoor.Ev
open Go
attribute [local congr] ob_congr sq_congr cd_congr ite_congr1 iter_congr it1_congr jumps_congr
set_option maxRecDepth 100000
set_option linter.unusedSimpArgs false
set_option linter.unusedVariables false

def spread1 (up set : Int) (k : Nat) (l : Nat → Int) : Nat → Int := if has up k = true then setN l k (bits .or .i64 (l k) (bits .and .i64 set 65535)) else l
theorem spread_ev (k : Nat) (l : Nat → Int) (up set : Int) : evF Tryz.prog env xt (k+3) 114 [.d (arr16 l), .d (.s (.int .i64 (up))), .d (.s (.int .i64 (set)))] =
    some (.d (arr16 (upto (spread1 up set) l 16))) := by
  rw [evF_eq Tryz.func114 (show Tryz.f114.body = some _ from rfl) rfl rfl rfl (by show 3 ≤ 23; decide)]
  simp (decide := true) only [Tryz.f114, rid, kl114_2, ↓sBp, sBq, List.all_cons, List.all_nil, List.map_cons, List.map_nil, D.shape, Sh.sub, Sh.size, List.getElem?_cons_zero, List.getElem?_cons_succ, Option.bind_some, Option.bind_none, Option.getD_some, Option.getD_none, V.keysIn, V.kill, V.has, decide_eq_true_eq, beq_iff_eq, bne_iff_ne, ne_eq, Bool.not_eq_true', Bool.and_true, Bool.and_self, Bool.true_and, if_true, if_false, reduceIte, Bool.false_eq_true, decide_true, decide_false, beq_self_eq_true, Bool.not_true, Bool.not_false, true_and, and_true, and_self, List.append_assoc, List.nil_append, List.cons_append, Int.toNat_natCast, ck, Int.cast_ofNat_Int, Int.reduceToNat, bne_self_eq_false, Bool.or_false, Bool.false_or, Bool.false_and, Bool.and_false, Bool.or_true, Bool.true_or]
  rw [iter_run (S := fun k => ⟨tab .junk [(1, .d (.s (.int .i64 (up)))), (2, .d (.s (.int .i64 (set)))), (3, .ptr 3 (.arr 16 (.cell (.int .i64))) [] (.arr 16 (.cell (.int .i64)))), (6, .ptr 6 (.arr 16 (.cell (.int .i64))) [] (.arr 16 (.cell (.int .i64)))), (8, .d (.s (.int .i64 (k))))], tab none [(3, some (.box (arr16 (upto (spread1 up set) l k)))), (6, some (.box (Z41)))]⟩) (n := 16) (h0 := ?h0) (hn := lt_loopFuel (by decide)) (step := ?step)]
  case h0 => rfl
  case step =>
    intro k hk
    have hk1 : (k : Int) < 16 := by omega
    have hk0 : (0 : Int) ≤ k := by omega
    have hkw := wrap_succ k (by omega)
    by_cases h : has up k = true
    · simp (decide := true) only [hk1, hk0, hkw, has_ev, h, upto, spread1, Tryz.f114, rid, kl114_2, ↓sBp, sBq, List.all_cons, List.all_nil, List.map_cons, List.map_nil, D.shape, Sh.sub, Sh.size, List.getElem?_cons_zero, List.getElem?_cons_succ, Option.bind_some, Option.bind_none, Option.getD_some, Option.getD_none, V.keysIn, V.kill, V.has, decide_eq_true_eq, beq_iff_eq, bne_iff_ne, ne_eq, Bool.not_eq_true', Bool.and_true, Bool.and_self, Bool.true_and, if_true, if_false, reduceIte, Bool.false_eq_true, decide_true, decide_false, beq_self_eq_true, Bool.not_true, Bool.not_false, true_and, and_true, and_self, List.append_assoc, List.nil_append, List.cons_append, Int.toNat_natCast, ck, Int.cast_ofNat_Int, Int.reduceToNat, bne_self_eq_false, Bool.or_false, Bool.false_or, Bool.false_and, Bool.and_false, Bool.or_true, Bool.true_or]
    · simp (decide := true) only [hk1, hk0, hkw, has_ev, h, upto, spread1, Tryz.f114, rid, kl114_2, ↓sBp, sBq, List.all_cons, List.all_nil, List.map_cons, List.map_nil, D.shape, Sh.sub, Sh.size, List.getElem?_cons_zero, List.getElem?_cons_succ, Option.bind_some, Option.bind_none, Option.getD_some, Option.getD_none, V.keysIn, V.kill, V.has, decide_eq_true_eq, beq_iff_eq, bne_iff_ne, ne_eq, Bool.not_eq_true', Bool.and_true, Bool.and_self, Bool.true_and, if_true, if_false, reduceIte, Bool.false_eq_true, decide_true, decide_false, beq_self_eq_true, Bool.not_true, Bool.not_false, true_and, and_true, and_self, List.append_assoc, List.nil_append, List.cons_append, Int.toNat_natCast, ck, Int.cast_ofNat_Int, Int.reduceToNat, bne_self_eq_false, Bool.or_false, Bool.false_or, Bool.false_and, Bool.and_false, Bool.or_true, Bool.true_or]
  simp (decide := true) only [Tryz.f114, rid, kl114_2, ↓sBp, sBq, List.all_cons, List.all_nil, List.map_cons, List.map_nil, D.shape, Sh.sub, Sh.size, List.getElem?_cons_zero, List.getElem?_cons_succ, Option.bind_some, Option.bind_none, Option.getD_some, Option.getD_none, V.keysIn, V.kill, V.has, decide_eq_true_eq, beq_iff_eq, bne_iff_ne, ne_eq, Bool.not_eq_true', Bool.and_true, Bool.and_self, Bool.true_and, if_true, if_false, reduceIte, Bool.false_eq_true, decide_true, decide_false, beq_self_eq_true, Bool.not_true, Bool.not_false, true_and, and_true, and_self, List.append_assoc, List.nil_append, List.cons_append, Int.toNat_natCast, ck, Int.cast_ofNat_Int, Int.reduceToNat, bne_self_eq_false, Bool.or_false, Bool.false_or, Bool.false_and, Bool.and_false, Bool.or_true, Bool.true_or]

def clear (l : Nat → Int) (n : Int) : Nat → Int := if right n = true then setN l n.toNat 0 else l
theorem clear_ev (k : Nat) (l : Nat → Int) (n : Int) : evF Tryz.prog env xt (k+2) 117 [.d (arr16 l), .d (.s (.int .i64 (n)))] = some (.d (arr16 (clear l n))) := by
  rw [evF_eq Tryz.func117 (show Tryz.f117.body = some _ from rfl) rfl rfl rfl (by show 2 ≤ 10; decide)]
  by_cases h : right n = true
  · have hn := right_nn h
    simp (decide := true) only [right_ev, h, hn, clear, Tryz.f117, rid, ↓sBp, sBq, List.all_cons, List.all_nil, List.map_cons, List.map_nil, D.shape, Sh.sub, Sh.size, List.getElem?_cons_zero, List.getElem?_cons_succ, Option.bind_some, Option.bind_none, Option.getD_some, Option.getD_none, V.keysIn, V.kill, V.has, decide_eq_true_eq, beq_iff_eq, bne_iff_ne, ne_eq, Bool.not_eq_true', Bool.and_true, Bool.and_self, Bool.true_and, if_true, if_false, reduceIte, Bool.false_eq_true, decide_true, decide_false, beq_self_eq_true, Bool.not_true, Bool.not_false, true_and, and_true, and_self, List.append_assoc, List.nil_append, List.cons_append, Int.toNat_natCast, ck, Int.cast_ofNat_Int, Int.reduceToNat, bne_self_eq_false, Bool.or_false, Bool.false_or, Bool.false_and, Bool.and_false, Bool.or_true, Bool.true_or]
  · simp (decide := true) only [right_ev, h, clear, Tryz.f117, rid, ↓sBp, sBq, List.all_cons, List.all_nil, List.map_cons, List.map_nil, D.shape, Sh.sub, Sh.size, List.getElem?_cons_zero, List.getElem?_cons_succ, Option.bind_some, Option.bind_none, Option.getD_some, Option.getD_none, V.keysIn, V.kill, V.has, decide_eq_true_eq, beq_iff_eq, bne_iff_ne, ne_eq, Bool.not_eq_true', Bool.and_true, Bool.and_self, Bool.true_and, if_true, if_false, reduceIte, Bool.false_eq_true, decide_true, decide_false, beq_self_eq_true, Bool.not_true, Bool.not_false, true_and, and_true, and_self, List.append_assoc, List.nil_append, List.cons_append, Int.toNat_natCast, ck, Int.cast_ofNat_Int, Int.reduceToNat, bne_self_eq_false, Bool.or_false, Bool.false_or, Bool.false_and, Bool.and_false, Bool.or_true, Bool.true_or]

def any1 (l : Nat → Int) (k : Nat) (s : Int) : Int := if l k = 0 then s else withN s k
theorem any_ev (k : Nat) (l : Nat → Int) : evF Tryz.prog env xt (k+3) 104 [.d (arr16 l)] = some (.d (.s (.int .i64 (upto (any1 l) 0 16)))) := by
  rw [evF_eq Tryz.func104 (show Tryz.f104.body = some _ from rfl) rfl rfl rfl (by show 1 ≤ 17; decide)]
  simp (decide := true) only [Tryz.f104, rid, kl104_3, ↓sBp, sBq, List.all_cons, List.all_nil, List.map_cons, List.map_nil, D.shape, Sh.sub, Sh.size, List.getElem?_cons_zero, List.getElem?_cons_succ, Option.bind_some, Option.bind_none, Option.getD_some, Option.getD_none, V.keysIn, V.kill, V.has, decide_eq_true_eq, beq_iff_eq, bne_iff_ne, ne_eq, Bool.not_eq_true', Bool.and_true, Bool.and_self, Bool.true_and, if_true, if_false, reduceIte, Bool.false_eq_true, decide_true, decide_false, beq_self_eq_true, Bool.not_true, Bool.not_false, true_and, and_true, and_self, List.append_assoc, List.nil_append, List.cons_append, Int.toNat_natCast, ck, Int.cast_ofNat_Int, Int.reduceToNat, bne_self_eq_false, Bool.or_false, Bool.false_or, Bool.false_and, Bool.and_false, Bool.or_true, Bool.true_or]
  rw [iter_run (S := fun k => ⟨tab .junk [(1, .ptr 1 (.arr 16 (.cell (.int .i64))) [] (.arr 16 (.cell (.int .i64)))), (3, .d (.s (.int .i64 (upto (any1 l) 0 k)))), (5, .d (.s (.int .i64 (k))))], tab none [(1, some (.box (arr16 l))), (14, none)]⟩) (n := 16) (h0 := ?h0) (hn := lt_loopFuel (by decide)) (step := ?step)]
  case h0 => rfl
  case step =>
    intro k hk
    have hk1 : (k : Int) < 16 := by omega
    have hk0 : (0 : Int) ≤ k := by omega
    have hkw := wrap_succ k (by omega)
    by_cases h : l k = 0
    · simp (decide := true) only [hk1, hk0, hkw, with_ev, h, upto, any1, Tryz.f104, rid, kl104_3, ↓sBp, sBq, List.all_cons, List.all_nil, List.map_cons, List.map_nil, D.shape, Sh.sub, Sh.size, List.getElem?_cons_zero, List.getElem?_cons_succ, Option.bind_some, Option.bind_none, Option.getD_some, Option.getD_none, V.keysIn, V.kill, V.has, decide_eq_true_eq, beq_iff_eq, bne_iff_ne, ne_eq, Bool.not_eq_true', Bool.and_true, Bool.and_self, Bool.true_and, if_true, if_false, reduceIte, Bool.false_eq_true, decide_true, decide_false, beq_self_eq_true, Bool.not_true, Bool.not_false, true_and, and_true, and_self, List.append_assoc, List.nil_append, List.cons_append, Int.toNat_natCast, ck, Int.cast_ofNat_Int, Int.reduceToNat, bne_self_eq_false, Bool.or_false, Bool.false_or, Bool.false_and, Bool.and_false, Bool.or_true, Bool.true_or]
    · simp (decide := true) only [hk1, hk0, hkw, with_ev, h, upto, any1, Tryz.f104, rid, kl104_3, ↓sBp, sBq, List.all_cons, List.all_nil, List.map_cons, List.map_nil, D.shape, Sh.sub, Sh.size, List.getElem?_cons_zero, List.getElem?_cons_succ, Option.bind_some, Option.bind_none, Option.getD_some, Option.getD_none, V.keysIn, V.kill, V.has, decide_eq_true_eq, beq_iff_eq, bne_iff_ne, ne_eq, Bool.not_eq_true', Bool.and_true, Bool.and_self, Bool.true_and, if_true, if_false, reduceIte, Bool.false_eq_true, decide_true, decide_false, beq_self_eq_true, Bool.not_true, Bool.not_false, true_and, and_true, and_self, List.append_assoc, List.nil_append, List.cons_append, Int.toNat_natCast, ck, Int.cast_ofNat_Int, Int.reduceToNat, bne_self_eq_false, Bool.or_false, Bool.false_or, Bool.false_and, Bool.and_false, Bool.or_true, Bool.true_or]
  simp (decide := true) only [Tryz.f104, rid, kl104_3, ↓sBp, sBq, List.all_cons, List.all_nil, List.map_cons, List.map_nil, D.shape, Sh.sub, Sh.size, List.getElem?_cons_zero, List.getElem?_cons_succ, Option.bind_some, Option.bind_none, Option.getD_some, Option.getD_none, V.keysIn, V.kill, V.has, decide_eq_true_eq, beq_iff_eq, bne_iff_ne, ne_eq, Bool.not_eq_true', Bool.and_true, Bool.and_self, Bool.true_and, if_true, if_false, reduceIte, Bool.false_eq_true, decide_true, decide_false, beq_self_eq_true, Bool.not_true, Bool.not_false, true_and, and_true, and_self, List.append_assoc, List.nil_append, List.cons_append, Int.toNat_natCast, ck, Int.cast_ofNat_Int, Int.reduceToNat, bne_self_eq_false, Bool.or_false, Bool.false_or, Bool.false_and, Bool.and_false, Bool.or_true, Bool.true_or]

end Go.Proofs.YtjceimcepogkaaaGreatDoor.Ev
/- What the functions of merge compute: items put in, and made. -/
namespace Go.Proofs.YtjceimcepogkaaaGreatDoor.Ev
open Go
attribute [local congr] ob_congr sq_congr cd_congr ite_congr1 iter_congr it1_congr jumps_congr
set_option maxRecDepth 100000
set_option linter.unusedSimpArgs false
set_option linter.unusedVariables false
structure Itm where
  j : Int
  k : Int
  d : Int
  p : Int
def itmD (x : Itm) : D := itD x.j x.k x.d x.p
def itms (l : List Itm) : List D := l.map itmD
theorem itms_length (l : List Itm) : (itms l).length = l.length := List.length_map ..
theorem itms_get {l : List Itm} {k : Nat} {x : Itm} (h : l[k]? = some x) : (itms l)[k]? = some (itD x.j x.k x.d x.p) := by simp [itms, itmD, h]
def rightI (j k d p : Int) : Bool := right j && (decide (0 ≤ k) && decide (k ≤ 2)) && (if d = 0 ∨ d = 4294967295 then p == -1 else right p && ((p != j) && decide (d ≤ 983040)))
theorem iright_ev (K : Nat) (j k d p : Int) : evF Tryz.prog env xt (K+2) 118 [.d (itD j k d p)] = some (.d (.s (.bool (rightI j k d p)))) := by
  rw [evF_eq Tryz.func118 (show Tryz.f118.body = some _ from rfl) rfl rfl rfl (by show 1 ≤ 41; decide)]
  rcases Bool.eq_false_or_eq_true (right j) with hj | hj
  case inr => simp (decide := true) only [right_ev, hj, rightI, Tryz.f118, rid, ↓sBp, sBq, List.all_cons, List.all_nil, List.map_cons, List.map_nil, D.shape, Sh.sub, Sh.size, List.getElem?_cons_zero, List.getElem?_cons_succ, Option.bind_some, Option.bind_none, Option.getD_some, Option.getD_none, V.keysIn, V.kill, V.has, decide_eq_true_eq, beq_iff_eq, bne_iff_ne, ne_eq, Bool.not_eq_true', Bool.and_true, Bool.and_self, Bool.true_and, if_true, if_false, reduceIte, Bool.false_eq_true, decide_true, decide_false, beq_self_eq_true, Bool.not_true, Bool.not_false, true_and, and_true, and_self, List.append_assoc, List.nil_append, List.cons_append, Int.toNat_natCast, ck, Int.cast_ofNat_Int, Int.reduceToNat, bne_self_eq_false, Bool.or_false, Bool.false_or, Bool.false_and, Bool.and_false, Bool.or_true, Bool.true_or]
  by_cases h0 : k < 0
  · have h0' : ¬ 0 ≤ k := by omega
    simp (decide := true) only [right_ev, hj, h0, h0', rightI, Tryz.f118, rid, ↓sBp, sBq, List.all_cons, List.all_nil, List.map_cons, List.map_nil, D.shape, Sh.sub, Sh.size, List.getElem?_cons_zero, List.getElem?_cons_succ, Option.bind_some, Option.bind_none, Option.getD_some, Option.getD_none, V.keysIn, V.kill, V.has, decide_eq_true_eq, beq_iff_eq, bne_iff_ne, ne_eq, Bool.not_eq_true', Bool.and_true, Bool.and_self, Bool.true_and, if_true, if_false, reduceIte, Bool.false_eq_true, decide_true, decide_false, beq_self_eq_true, Bool.not_true, Bool.not_false, true_and, and_true, and_self, List.append_assoc, List.nil_append, List.cons_append, Int.toNat_natCast, ck, Int.cast_ofNat_Int, Int.reduceToNat, bne_self_eq_false, Bool.or_false, Bool.false_or, Bool.false_and, Bool.and_false, Bool.or_true, Bool.true_or]
  have h0' : 0 ≤ k := by omega
  by_cases h2 : 2 < k
  · have h2' : ¬ k ≤ 2 := by omega
    simp (decide := true) only [right_ev, hj, h0, h0', h2, h2', rightI, Tryz.f118, rid, ↓sBp, sBq, List.all_cons, List.all_nil, List.map_cons, List.map_nil, D.shape, Sh.sub, Sh.size, List.getElem?_cons_zero, List.getElem?_cons_succ, Option.bind_some, Option.bind_none, Option.getD_some, Option.getD_none, V.keysIn, V.kill, V.has, decide_eq_true_eq, beq_iff_eq, bne_iff_ne, ne_eq, Bool.not_eq_true', Bool.and_true, Bool.and_self, Bool.true_and, if_true, if_false, reduceIte, Bool.false_eq_true, decide_true, decide_false, beq_self_eq_true, Bool.not_true, Bool.not_false, true_and, and_true, and_self, List.append_assoc, List.nil_append, List.cons_append, Int.toNat_natCast, ck, Int.cast_ofNat_Int, Int.reduceToNat, bne_self_eq_false, Bool.or_false, Bool.false_or, Bool.false_and, Bool.and_false, Bool.or_true, Bool.true_or]
  have h2' : k ≤ 2 := by omega
  by_cases hd : d = 0
  · have e : rightI j k d p = (p == -1) := by unfold rightI; rw [hj, decide_eq_true h0', decide_eq_true h2', if_pos (Or.inl hd)]; rfl
    simp (decide := true) only [right_ev, hj, h0, h2, hd, e, Tryz.f118, rid, ↓sBp, sBq, List.all_cons, List.all_nil, List.map_cons, List.map_nil, D.shape, Sh.sub, Sh.size, List.getElem?_cons_zero, List.getElem?_cons_succ, Option.bind_some, Option.bind_none, Option.getD_some, Option.getD_none, V.keysIn, V.kill, V.has, decide_eq_true_eq, beq_iff_eq, bne_iff_ne, ne_eq, Bool.not_eq_true', Bool.and_true, Bool.and_self, Bool.true_and, if_true, if_false, reduceIte, Bool.false_eq_true, decide_true, decide_false, beq_self_eq_true, Bool.not_true, Bool.not_false, true_and, and_true, and_self, List.append_assoc, List.nil_append, List.cons_append, Int.toNat_natCast, ck, Int.cast_ofNat_Int, Int.reduceToNat, bne_self_eq_false, Bool.or_false, Bool.false_or, Bool.false_and, Bool.and_false, Bool.or_true, Bool.true_or]
    try rw [← e, hd]
  · by_cases hf : d = 4294967295
    · have e : rightI j k d p = (p == -1) := by unfold rightI; rw [hj, decide_eq_true h0', decide_eq_true h2', if_pos (Or.inr hf)]; rfl
      simp (decide := true) only [right_ev, hj, h0, h2, hd, hf, e, Tryz.f118, rid, ↓sBp, sBq, List.all_cons, List.all_nil, List.map_cons, List.map_nil, D.shape, Sh.sub, Sh.size, List.getElem?_cons_zero, List.getElem?_cons_succ, Option.bind_some, Option.bind_none, Option.getD_some, Option.getD_none, V.keysIn, V.kill, V.has, decide_eq_true_eq, beq_iff_eq, bne_iff_ne, ne_eq, Bool.not_eq_true', Bool.and_true, Bool.and_self, Bool.true_and, if_true, if_false, reduceIte, Bool.false_eq_true, decide_true, decide_false, beq_self_eq_true, Bool.not_true, Bool.not_false, true_and, and_true, and_self, List.append_assoc, List.nil_append, List.cons_append, Int.toNat_natCast, ck, Int.cast_ofNat_Int, Int.reduceToNat, bne_self_eq_false, Bool.or_false, Bool.false_or, Bool.false_and, Bool.and_false, Bool.or_true, Bool.true_or]
      try rw [← e, hf]
    · have e : rightI j k d p = (right p && ((p != j) && decide (d ≤ 983040))) := by unfold rightI; rw [hj, decide_eq_true h0', decide_eq_true h2', if_neg (by simp [hd, hf])]; rfl
      rcases Bool.eq_false_or_eq_true (right p) with hp | hp
      · rcases Bool.eq_false_or_eq_true (p != j) with hn | hn
        · simp (decide := true) only [right_ev, hj, h0, h2, hd, hf, e, hp, hn, Tryz.f118, rid, ↓sBp, sBq, List.all_cons, List.all_nil, List.map_cons, List.map_nil, D.shape, Sh.sub, Sh.size, List.getElem?_cons_zero, List.getElem?_cons_succ, Option.bind_some, Option.bind_none, Option.getD_some, Option.getD_none, V.keysIn, V.kill, V.has, decide_eq_true_eq, beq_iff_eq, bne_iff_ne, ne_eq, Bool.not_eq_true', Bool.and_true, Bool.and_self, Bool.true_and, if_true, if_false, reduceIte, Bool.false_eq_true, decide_true, decide_false, beq_self_eq_true, Bool.not_true, Bool.not_false, true_and, and_true, and_self, List.append_assoc, List.nil_append, List.cons_append, Int.toNat_natCast, ck, Int.cast_ofNat_Int, Int.reduceToNat, bne_self_eq_false, Bool.or_false, Bool.false_or, Bool.false_and, Bool.and_false, Bool.or_true, Bool.true_or]
        · simp (decide := true) only [right_ev, hj, h0, h2, hd, hf, e, hp, hn, Tryz.f118, rid, ↓sBp, sBq, List.all_cons, List.all_nil, List.map_cons, List.map_nil, D.shape, Sh.sub, Sh.size, List.getElem?_cons_zero, List.getElem?_cons_succ, Option.bind_some, Option.bind_none, Option.getD_some, Option.getD_none, V.keysIn, V.kill, V.has, decide_eq_true_eq, beq_iff_eq, bne_iff_ne, ne_eq, Bool.not_eq_true', Bool.and_true, Bool.and_self, Bool.true_and, if_true, if_false, reduceIte, Bool.false_eq_true, decide_true, decide_false, beq_self_eq_true, Bool.not_true, Bool.not_false, true_and, and_true, and_self, List.append_assoc, List.nil_append, List.cons_append, Int.toNat_natCast, ck, Int.cast_ofNat_Int, Int.reduceToNat, bne_self_eq_false, Bool.or_false, Bool.false_or, Bool.false_and, Bool.and_false, Bool.or_true, Bool.true_or]
      · simp (decide := true) only [right_ev, hj, h0, h2, hd, hf, e, hp, Tryz.f118, rid, ↓sBp, sBq, List.all_cons, List.all_nil, List.map_cons, List.map_nil, D.shape, Sh.sub, Sh.size, List.getElem?_cons_zero, List.getElem?_cons_succ, Option.bind_some, Option.bind_none, Option.getD_some, Option.getD_none, V.keysIn, V.kill, V.has, decide_eq_true_eq, beq_iff_eq, bne_iff_ne, ne_eq, Bool.not_eq_true', Bool.and_true, Bool.and_self, Bool.true_and, if_true, if_false, reduceIte, Bool.false_eq_true, decide_true, decide_false, beq_self_eq_true, Bool.not_true, Bool.not_false, true_and, and_true, and_self, List.append_assoc, List.nil_append, List.cons_append, Int.toNat_natCast, ck, Int.cast_ofNat_Int, Int.reduceToNat, bne_self_eq_false, Bool.or_false, Bool.false_or, Bool.false_and, Bool.and_false, Bool.or_true, Bool.true_or]
structure TrF where
  d : Nat → Int
  p : Nat → Int
def app1 (x : Itm) (s : TrF) : TrF := if rightI x.j x.k x.d x.p = true then ⟨setN s.d x.j.toNat x.d, setN s.p x.j.toNat x.p⟩ else s
def appTo (l : List Itm) (s : TrF) (k : Nat) : TrF := upto (fun i s => app1 (l.getD i ⟨0, 0, 0, 0⟩) s) s k
theorem appTo_succ (l : List Itm) (s : TrF) (k : Nat) {x : Itm} (h : l.getD k ⟨0, 0, 0, 0⟩ = x) : appTo l s (k + 1) = app1 x (appTo l s k) := by subst h; rfl
theorem rightI_right {j k d p : Int} (h : rightI j k d p = true) : right j = true := by
  unfold rightI at h
  simp only [Bool.and_eq_true] at h
  exact h.1.1
theorem mapply_ev (K : Nat) (d p : Nat → Int) (l : List Itm) (hl : l.length < 1000000) : evF Tryz.prog env xt (K+3) 73 [.d (treeD d p), .sl .ro shI (itms l)] = some (.d (treeD (appTo l ⟨d, p⟩ l.length).d (appTo l ⟨d, p⟩ l.length).p)) := by
  rw [evF_eq Tryz.func73 (show Tryz.f73.body = some _ from rfl) rfl rfl rfl (by show 2 ≤ 25; decide)]
  have hle := itms_length l
  simp (decide := true) only [Tryz.f73, rid, kl73_2, ↓sBp, sBq, List.all_cons, List.all_nil, List.map_cons, List.map_nil, D.shape, Sh.sub, Sh.size, List.getElem?_cons_zero, List.getElem?_cons_succ, Option.bind_some, Option.bind_none, Option.getD_some, Option.getD_none, V.keysIn, V.kill, V.has, decide_eq_true_eq, beq_iff_eq, bne_iff_ne, ne_eq, Bool.not_eq_true', Bool.and_true, Bool.and_self, Bool.true_and, if_true, if_false, reduceIte, Bool.false_eq_true, decide_true, decide_false, beq_self_eq_true, Bool.not_true, Bool.not_false, true_and, and_true, and_self, List.append_assoc, List.nil_append, List.cons_append, Int.toNat_natCast, ck, Int.cast_ofNat_Int, Int.reduceToNat, bne_self_eq_false, Bool.or_false, Bool.false_or, Bool.false_and, Bool.and_false, Bool.or_true, Bool.true_or]
  rw [iter_run (S := fun k => ⟨tab .junk [(2, .ptr 2 (shT) [] (shT)), (4, .ptr 4 (shT) [] (shT)), (7, .sl .ro shI (itms l)), (8, .d (.s (.int .i64 (l.length)))), (9, .d (.s (.int .i64 (k))))], tab none [(2, some (.box (treeD (appTo l ⟨d, p⟩ k).d (appTo l ⟨d, p⟩ k).p))), (4, some (.box (Z33)))]⟩) (n := l.length) (h0 := ?h0) (hn := ?hn) (step := ?step)]
  case h0 => rw [hle]; rfl
  case hn => exact lt_loopFuel hl
  case step =>
    intro k hk
    have hk1 : (k : Int) < (l.length : Int) := by omega
    have hk0 : (0 : Int) ≤ k := by omega
    have hkw := wrap_succ k (by omega)
    have hi := itms_get (l := l) (k := k) (List.getElem?_eq_getElem hk)
    have hg : l.getD k ⟨0, 0, 0, 0⟩ = l[k] := by simp [List.getD, List.getElem?_eq_getElem hk]
    have hs := appTo_succ l ⟨d, p⟩ k hg
    generalize l[k] = x at hi hs
    unfold app1 at hs
    rcases Bool.eq_false_or_eq_true (rightI x.j x.k x.d x.p) with h | h
    · have hr := right_nn (rightI_right h)
      rw [if_pos h] at hs
      simp (decide := true) only [hk1, hk0, hkw, hi, iright_ev, h, hr, setN_ent, hs, Tryz.f73, rid, kl73_2, ↓sBp, sBq, List.all_cons, List.all_nil, List.map_cons, List.map_nil, D.shape, Sh.sub, Sh.size, List.getElem?_cons_zero, List.getElem?_cons_succ, Option.bind_some, Option.bind_none, Option.getD_some, Option.getD_none, V.keysIn, V.kill, V.has, decide_eq_true_eq, beq_iff_eq, bne_iff_ne, ne_eq, Bool.not_eq_true', Bool.and_true, Bool.and_self, Bool.true_and, if_true, if_false, reduceIte, Bool.false_eq_true, decide_true, decide_false, beq_self_eq_true, Bool.not_true, Bool.not_false, true_and, and_true, and_self, List.append_assoc, List.nil_append, List.cons_append, Int.toNat_natCast, ck, Int.cast_ofNat_Int, Int.reduceToNat, bne_self_eq_false, Bool.or_false, Bool.false_or, Bool.false_and, Bool.and_false, Bool.or_true, Bool.true_or]
    · rw [h, if_neg Bool.false_ne_true] at hs
      simp (decide := true) only [hk1, hk0, hkw, hi, iright_ev, h, hs, Tryz.f73, rid, kl73_2, ↓sBp, sBq, List.all_cons, List.all_nil, List.map_cons, List.map_nil, D.shape, Sh.sub, Sh.size, List.getElem?_cons_zero, List.getElem?_cons_succ, Option.bind_some, Option.bind_none, Option.getD_some, Option.getD_none, V.keysIn, V.kill, V.has, decide_eq_true_eq, beq_iff_eq, bne_iff_ne, ne_eq, Bool.not_eq_true', Bool.and_true, Bool.and_self, Bool.true_and, if_true, if_false, reduceIte, Bool.false_eq_true, decide_true, decide_false, beq_self_eq_true, Bool.not_true, Bool.not_false, true_and, and_true, and_self, List.append_assoc, List.nil_append, List.cons_append, Int.toNat_natCast, ck, Int.cast_ofNat_Int, Int.reduceToNat, bne_self_eq_false, Bool.or_false, Bool.false_or, Bool.false_and, Bool.and_false, Bool.or_true, Bool.true_or]
  simp (decide := true) only [Int.lt_irrefl, Tryz.f73, rid, kl73_2, ↓sBp, sBq, List.all_cons, List.all_nil, List.map_cons, List.map_nil, D.shape, Sh.sub, Sh.size, List.getElem?_cons_zero, List.getElem?_cons_succ, Option.bind_some, Option.bind_none, Option.getD_some, Option.getD_none, V.keysIn, V.kill, V.has, decide_eq_true_eq, beq_iff_eq, bne_iff_ne, ne_eq, Bool.not_eq_true', Bool.and_true, Bool.and_self, Bool.true_and, if_true, if_false, reduceIte, Bool.false_eq_true, decide_true, decide_false, beq_self_eq_true, Bool.not_true, Bool.not_false, true_and, and_true, and_self, List.append_assoc, List.nil_append, List.cons_append, Int.toNat_natCast, ck, Int.cast_ofNat_Int, Int.reduceToNat, bne_self_eq_false, Bool.or_false, Bool.false_or, Bool.false_and, Bool.and_false, Bool.or_true, Bool.true_or]
def diffC (d p d' p' : Nat → Int) (k : Nat) : Bool := !((d k == d' k) && (p k == p' k))
theorem ent_eqv' (a b a' b' : Int) : (entD a b).eqv (entD a' b') = ((a == a') && (b == b')) := by rw [ent_eqv, Bool.and_true]
theorem items_ev (K : Nat) (d p : Nat → Int) (t a r : Int) : evF Tryz.prog env xt (K+1) 71 [.d (treeD d p), .d (.s (.int .i64 (t))), .d (.s (.int .i64 (a))), .d (.s (.int .i64 (r)))] = some (.sl .ro shI (itemsTo d p t a r 16)) := by
  have h : xt 71 [.d (treeD d p), .d (.s (.int .i64 (t))), .d (.s (.int .i64 (a))), .d (.s (.int .i64 (r)))] = some (.sl .ro shI (itemsTo d p t a r 16)) := by
    rw [xt_it rfl]
    show (if (treeD d p).shape = shT then some (V.sl .ro shI (itemsTo d p t a r 16)) else none) = _
    have e : (treeD d p).shape = shT := rfl
    rw [if_pos e]
  unfold evF
  rw [h]
end Go.Proofs.YtjceimcepogkaaaGreatDoor.Ev
