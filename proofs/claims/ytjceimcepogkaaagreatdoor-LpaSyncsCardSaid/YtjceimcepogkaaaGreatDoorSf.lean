/- What the functions of settle compute: the nearest row that may be, and the table. -/
import Derived.Test.YtjceimcepogkaaaGreatDoorSe
namespace Go.Proofs.YtjceimcepogkaaaGreatDoor.Ev
open Go
attribute [local congr] ob_congr sq_congr cd_congr ite_congr1 iter_congr it1_congr jumps_congr
set_option maxRecDepth 100000
set_option linter.unusedSimpArgs false
set_option linter.unusedVariables false

structure Bst where
  at' : Int
  a : Int
  b : Int
  c : Int
def nearJ (k : Kn) (r : Rw) (skip n : Int) (j : Nat) (s : Bst) : Bst :=
  if (rowNone (r.d j) (r.p j) (r.n j) && (!has skip j && (alOk k r n j && decide (alRd k n j < s.a)))) = true then ⟨j, alRd k n j, alRp k n j, alRn k n j⟩ else s
def nearN (k : Kn) (r : Rw) (skip n : Int) (s : Bst) (j : Nat) : Bst := upto (fun j s => nearJ k r skip n j s) s j
def nearTo (k : Kn) (r : Rw) (skip : Int) (i : Nat) : Bst := upto (fun i s => nearN k r skip ((listTo k.up 16).getD i 0) s 16) ⟨-1, 4294967295, -1, -1⟩ i
def near (k : Kn) (r : Rw) (skip : Int) : Bst := nearTo k r skip (listTo k.up 16).length

set_option maxHeartbeats 4000000 in
theorem nearest_ev (K : Nat) (self up : Int) (c : Nat → Int) (tD tP : Nat → Nat → Int) (rD rP rN : Nat → Int) (skip : Int) :
    evF Tryz.prog env xt (K+5) 147 [.d (knD self up c tD tP), .d (rowsD rD rP rN), .d (.s (.int .i64 (skip)))] =
      some (.tcons (.d (.s (.int .i64 ((near ⟨self, up, c, tD, tP⟩ ⟨rD, rP, rN⟩ skip).at')))) (.tcons (.d (rowD (near ⟨self, up, c, tD, tP⟩ ⟨rD, rP, rN⟩ skip).a (near ⟨self, up, c, tD, tP⟩ ⟨rD, rP, rN⟩ skip).b (near ⟨self, up, c, tD, tP⟩ ⟨rD, rP, rN⟩ skip).c)) .tnil)) := by
  rw [evF_eq Tryz.func147 (show Tryz.f147.body = some _ from rfl) rfl rfl rfl (by show 3 ≤ 59; decide)]
  simp (decide := true) only [none_ev, up_ev, Tryz.f147, rid, kl147_3, kl147_6, dp147_8, dp147_11, dp147_14, ↓sBp, sBq, List.all_cons, List.all_nil, List.map_cons, List.map_nil, D.shape, Sh.sub, Sh.size, List.getElem?_cons_zero, List.getElem?_cons_succ, Option.bind_some, Option.bind_none, Option.getD_some, Option.getD_none, V.keysIn, V.kill, V.has, decide_eq_true_eq, beq_iff_eq, bne_iff_ne, ne_eq, Bool.not_eq_true', Bool.and_true, Bool.and_self, Bool.true_and, if_true, if_false, reduceIte, Bool.false_eq_true, decide_true, decide_false, beq_self_eq_true, Bool.not_true, Bool.not_false, true_and, and_true, and_self, List.append_assoc, List.nil_append, List.cons_append, Int.toNat_natCast, ck, Int.cast_ofNat_Int, Int.reduceToNat, bne_self_eq_false, Bool.or_false, Bool.false_or, Bool.false_and, Bool.and_false, Bool.or_true, Bool.true_or]
  have hlen := listTo_len up 16
  have hle := ints_length (listTo up 16)
  generalize hk : (⟨self, up, c, tD, tP⟩ : Kn) = k
  generalize hr : (⟨rD, rP, rN⟩ : Rw) = r
  have ku : k.up = up := by rw [← hk]
  rw [iter_run (S := fun i => ⟨tab .junk [(2, .d (.s (.int .i64 (skip)))), (3, .ptr 3 (shK) [] (shK)), (4, .ptr 4 (shRs) [] (shRs)), (7, .ptr 7 (shR) [] (shR)), (8, .d (.s (.int .i64 ((nearTo k r skip i).at')))), (9, .ptr 9 (shR) [] (shR)), (18, .sl (.tg 18) cI (ints (listTo up 16))), (19, .d (.s (.int .i64 ((listTo up 16).length)))), (20, .d (.s (.int .i64 (i))))], tab none [(3, some (.box (knD self up c tD tP))), (4, some (.box (rowsD rD rP rN))), (7, some (.box (Z38))), (9, some (.box (rowD (nearTo k r skip i).a (nearTo k r skip i).b (nearTo k r skip i).c))), (18, some .row)]⟩) (n := (listTo up 16).length) (h0 := ?h0) (hn := ?hn) (step := ?step)]
  case h0 => rw [hle]; rfl
  case hn => exact lt_loopFuel (by omega)
  case step =>
    intro i hi
    have hi1 : (i : Int) < ((listTo up 16).length : Int) := by omega
    have hi0 : (0 : Int) ≤ i := by omega
    have hiw := wrap_succ i (by omega)
    obtain ⟨n, hn, hh, he⟩ := listTo_get up hi
    have hg := ints_get he
    have hgd : (listTo k.up 16).getD i 0 = (n : Int) := by rw [ku]; simp [List.getD, he]
    have es : nearTo k r skip (i + 1) = nearN k r skip n (nearTo k r skip i) 16 := by
      show nearN k r skip ((listTo k.up 16).getD i 0) (nearTo k r skip i) 16 = _
      rw [hgd]
    rw [es]
    generalize nearTo k r skip i = s0
    simp (decide := true) only [hi1, hi0, hg, Tryz.f147, rid, kl147_3, kl147_6, dp147_8, dp147_11, dp147_14, ↓sBp, sBq, List.all_cons, List.all_nil, List.map_cons, List.map_nil, D.shape, Sh.sub, Sh.size, List.getElem?_cons_zero, List.getElem?_cons_succ, Option.bind_some, Option.bind_none, Option.getD_some, Option.getD_none, V.keysIn, V.kill, V.has, decide_eq_true_eq, beq_iff_eq, bne_iff_ne, ne_eq, Bool.not_eq_true', Bool.and_true, Bool.and_self, Bool.true_and, if_true, if_false, reduceIte, Bool.false_eq_true, decide_true, decide_false, beq_self_eq_true, Bool.not_true, Bool.not_false, true_and, and_true, and_self, List.append_assoc, List.nil_append, List.cons_append, Int.toNat_natCast, ck, Int.cast_ofNat_Int, Int.reduceToNat, bne_self_eq_false, Bool.or_false, Bool.false_or, Bool.false_and, Bool.and_false, Bool.or_true, Bool.true_or]
    rw [iter_run (S := fun j => ⟨tab .junk [(2, .d (.s (.int .i64 (skip)))), (3, .ptr 3 (shK) [] (shK)), (4, .ptr 4 (shRs) [] (shRs)), (7, .ptr 7 (shR) [] (shR)), (8, .d (.s (.int .i64 ((nearN k r skip n s0 j).at')))), (9, .ptr 9 (shR) [] (shR)), (11, .d (.s (.int .i64 ((n : Nat))))), (18, .sl (.tg 18) cI (ints (listTo up 16))), (19, .d (.s (.int .i64 ((listTo up 16).length)))), (20, .d (.s (.int .i64 (i)))), (24, .d (.s (.int .i64 (j))))], tab none [(3, some (.box (knD self up c tD tP))), (4, some (.box (rowsD rD rP rN))), (7, some (.box (Z38))), (9, some (.box (rowD (nearN k r skip n s0 j).a (nearN k r skip n s0 j).b (nearN k r skip n s0 j).c))), (18, some .row)]⟩) (n := 16) (h0 := ?h0) (hn := lt_loopFuel (by decide)) (step := ?step)]
    case h0 => rfl
    case step =>
      intro j hj
      have hj1 : (j : Int) < 16 := by omega
      have hj0 : (0 : Int) ≤ j := by omega
      have hjw := wrap_succ j (by omega)
      have ej : nearN k r skip n s0 (j + 1) = nearJ k r skip n j (nearN k r skip n s0 j) := rfl
      rw [ej]
      generalize nearN k r skip n s0 j = s
      have en : nearJ k r skip n j s = if (rowNone (rD j) (rP j) (rN j) && (!has skip j && (alOk k r n j && decide (alRd k n j < s.a)))) = true then ⟨j, alRd k n j, alRp k n j, alRn k n j⟩ else s := by
        unfold nearJ; rw [← hr]
      have al : ∀ K, evF Tryz.prog env xt (K+4) 154 [.d (knD self up c tD tP), .d (rowsD rD rP rN), .d (.s (.int .i64 ((n : Nat)))), .d (.s (.int .i64 ((j : Nat))))] = some (.tcons (.d (rowD (alRd k n j) (alRp k n j) (alRn k n j))) (.tcons (.d (.s (.bool (alOk k r n j)))) .tnil)) := fun K => by
        rw [allowed_ev, hk, hr]
      rcases Bool.eq_false_or_eq_true (rowNone (rD j) (rP j) (rN j)) with h1 | h1
      case inr =>
        rw [h1] at en
        simp (decide := true) only [hj1, hj0, hjw, none_ev, row_eqv, h1, en, Tryz.f147, rid, kl147_3, kl147_6, dp147_8, dp147_11, dp147_14, ↓sBp, sBq, List.all_cons, List.all_nil, List.map_cons, List.map_nil, D.shape, Sh.sub, Sh.size, List.getElem?_cons_zero, List.getElem?_cons_succ, Option.bind_some, Option.bind_none, Option.getD_some, Option.getD_none, V.keysIn, V.kill, V.has, decide_eq_true_eq, beq_iff_eq, bne_iff_ne, ne_eq, Bool.not_eq_true', Bool.and_true, Bool.and_self, Bool.true_and, if_true, if_false, reduceIte, Bool.false_eq_true, decide_true, decide_false, beq_self_eq_true, Bool.not_true, Bool.not_false, true_and, and_true, and_self, List.append_assoc, List.nil_append, List.cons_append, Int.toNat_natCast, ck, Int.cast_ofNat_Int, Int.reduceToNat, bne_self_eq_false, Bool.or_false, Bool.false_or, Bool.false_and, Bool.and_false, Bool.or_true, Bool.true_or]
      rcases Bool.eq_false_or_eq_true (has skip j) with h2 | h2
      case inl =>
        rw [h1, h2] at en
        simp (decide := true) only [hj1, hj0, hjw, none_ev, row_eqv, h1, has_ev, h2, en, Tryz.f147, rid, kl147_3, kl147_6, dp147_8, dp147_11, dp147_14, ↓sBp, sBq, List.all_cons, List.all_nil, List.map_cons, List.map_nil, D.shape, Sh.sub, Sh.size, List.getElem?_cons_zero, List.getElem?_cons_succ, Option.bind_some, Option.bind_none, Option.getD_some, Option.getD_none, V.keysIn, V.kill, V.has, decide_eq_true_eq, beq_iff_eq, bne_iff_ne, ne_eq, Bool.not_eq_true', Bool.and_true, Bool.and_self, Bool.true_and, if_true, if_false, reduceIte, Bool.false_eq_true, decide_true, decide_false, beq_self_eq_true, Bool.not_true, Bool.not_false, true_and, and_true, and_self, List.append_assoc, List.nil_append, List.cons_append, Int.toNat_natCast, ck, Int.cast_ofNat_Int, Int.reduceToNat, bne_self_eq_false, Bool.or_false, Bool.false_or, Bool.false_and, Bool.and_false, Bool.or_true, Bool.true_or]
      rcases Bool.eq_false_or_eq_true (alOk k r n j) with h3 | h3
      case inr =>
        rw [h1, h2, h3] at en
        simp (decide := true) only [hj1, hj0, hjw, none_ev, row_eqv, h1, has_ev, h2, al, h3, en, Tryz.f147, rid, kl147_3, kl147_6, dp147_8, dp147_11, dp147_14, ↓sBp, sBq, List.all_cons, List.all_nil, List.map_cons, List.map_nil, D.shape, Sh.sub, Sh.size, List.getElem?_cons_zero, List.getElem?_cons_succ, Option.bind_some, Option.bind_none, Option.getD_some, Option.getD_none, V.keysIn, V.kill, V.has, decide_eq_true_eq, beq_iff_eq, bne_iff_ne, ne_eq, Bool.not_eq_true', Bool.and_true, Bool.and_self, Bool.true_and, if_true, if_false, reduceIte, Bool.false_eq_true, decide_true, decide_false, beq_self_eq_true, Bool.not_true, Bool.not_false, true_and, and_true, and_self, List.append_assoc, List.nil_append, List.cons_append, Int.toNat_natCast, ck, Int.cast_ofNat_Int, Int.reduceToNat, bne_self_eq_false, Bool.or_false, Bool.false_or, Bool.false_and, Bool.and_false, Bool.or_true, Bool.true_or]
      by_cases h4 : alRd k n j < s.a
      case neg =>
        rw [h1, h2, h3, decide_eq_false h4] at en
        simp (decide := true) only [hj1, hj0, hjw, none_ev, row_eqv, h1, has_ev, h2, al, h3, h4, en, Tryz.f147, rid, kl147_3, kl147_6, dp147_8, dp147_11, dp147_14, ↓sBp, sBq, List.all_cons, List.all_nil, List.map_cons, List.map_nil, D.shape, Sh.sub, Sh.size, List.getElem?_cons_zero, List.getElem?_cons_succ, Option.bind_some, Option.bind_none, Option.getD_some, Option.getD_none, V.keysIn, V.kill, V.has, decide_eq_true_eq, beq_iff_eq, bne_iff_ne, ne_eq, Bool.not_eq_true', Bool.and_true, Bool.and_self, Bool.true_and, if_true, if_false, reduceIte, Bool.false_eq_true, decide_true, decide_false, beq_self_eq_true, Bool.not_true, Bool.not_false, true_and, and_true, and_self, List.append_assoc, List.nil_append, List.cons_append, Int.toNat_natCast, ck, Int.cast_ofNat_Int, Int.reduceToNat, bne_self_eq_false, Bool.or_false, Bool.false_or, Bool.false_and, Bool.and_false, Bool.or_true, Bool.true_or]
      rw [h1, h2, h3, decide_eq_true h4] at en
      simp (decide := true) only [hj1, hj0, hjw, none_ev, row_eqv, h1, has_ev, h2, al, h3, h4, en, Tryz.f147, rid, kl147_3, kl147_6, dp147_8, dp147_11, dp147_14, ↓sBp, sBq, List.all_cons, List.all_nil, List.map_cons, List.map_nil, D.shape, Sh.sub, Sh.size, List.getElem?_cons_zero, List.getElem?_cons_succ, Option.bind_some, Option.bind_none, Option.getD_some, Option.getD_none, V.keysIn, V.kill, V.has, decide_eq_true_eq, beq_iff_eq, bne_iff_ne, ne_eq, Bool.not_eq_true', Bool.and_true, Bool.and_self, Bool.true_and, if_true, if_false, reduceIte, Bool.false_eq_true, decide_true, decide_false, beq_self_eq_true, Bool.not_true, Bool.not_false, true_and, and_true, and_self, List.append_assoc, List.nil_append, List.cons_append, Int.toNat_natCast, ck, Int.cast_ofNat_Int, Int.reduceToNat, bne_self_eq_false, Bool.or_false, Bool.false_or, Bool.false_and, Bool.and_false, Bool.or_true, Bool.true_or]
    simp (decide := true) only [hiw, Tryz.f147, rid, kl147_3, kl147_6, dp147_8, dp147_11, dp147_14, ↓sBp, sBq, List.all_cons, List.all_nil, List.map_cons, List.map_nil, D.shape, Sh.sub, Sh.size, List.getElem?_cons_zero, List.getElem?_cons_succ, Option.bind_some, Option.bind_none, Option.getD_some, Option.getD_none, V.keysIn, V.kill, V.has, decide_eq_true_eq, beq_iff_eq, bne_iff_ne, ne_eq, Bool.not_eq_true', Bool.and_true, Bool.and_self, Bool.true_and, if_true, if_false, reduceIte, Bool.false_eq_true, decide_true, decide_false, beq_self_eq_true, Bool.not_true, Bool.not_false, true_and, and_true, and_self, List.append_assoc, List.nil_append, List.cons_append, Int.toNat_natCast, ck, Int.cast_ofNat_Int, Int.reduceToNat, bne_self_eq_false, Bool.or_false, Bool.false_or, Bool.false_and, Bool.and_false, Bool.or_true, Bool.true_or]
  have ee : near k r skip = nearTo k r skip (listTo up 16).length := by unfold near; rw [ku]
  simp (decide := true) only [Int.lt_irrefl, ee, Tryz.f147, rid, kl147_3, kl147_6, dp147_8, dp147_11, dp147_14, ↓sBp, sBq, List.all_cons, List.all_nil, List.map_cons, List.map_nil, D.shape, Sh.sub, Sh.size, List.getElem?_cons_zero, List.getElem?_cons_succ, Option.bind_some, Option.bind_none, Option.getD_some, Option.getD_none, V.keysIn, V.kill, V.has, decide_eq_true_eq, beq_iff_eq, bne_iff_ne, ne_eq, Bool.not_eq_true', Bool.and_true, Bool.and_self, Bool.true_and, if_true, if_false, reduceIte, Bool.false_eq_true, decide_true, decide_false, beq_self_eq_true, Bool.not_true, Bool.not_false, true_and, and_true, and_self, List.append_assoc, List.nil_append, List.cons_append, Int.toNat_natCast, ck, Int.cast_ofNat_Int, Int.reduceToNat, bne_self_eq_false, Bool.or_false, Bool.false_or, Bool.false_and, Bool.and_false, Bool.or_true, Bool.true_or]

theorem near_ok (k : Kn) (r : Rw) (skip : Int) : ((near k r skip).at' = -1 ∧ (near k r skip).a = 4294967295 ∧ (near k r skip).b = -1 ∧ (near k r skip).c = -1) ∨ (0 ≤ (near k r skip).at' ∧ (near k r skip).at' < 16) := by
  unfold near nearTo
  refine upto_ind (n := (listTo k.up 16).length) (fun _ (s : Bst) => (s.at' = -1 ∧ s.a = 4294967295 ∧ s.b = -1 ∧ s.c = -1) ∨ (0 ≤ s.at' ∧ s.at' < 16)) (Or.inl ⟨rfl, rfl, rfl, rfl⟩) (fun i s _ hs => ?_) _ (Nat.le_refl _)
  unfold nearN
  refine upto_ind (n := 16) (fun _ (s : Bst) => (s.at' = -1 ∧ s.a = 4294967295 ∧ s.b = -1 ∧ s.c = -1) ∨ (0 ≤ s.at' ∧ s.at' < 16)) hs (fun j s hj hs => ?_) _ (Nat.le_refl _)
  unfold nearJ
  split
  · exact Or.inr ⟨by show (0 : Int) ≤ (j : Int); omega, by show (j : Int) < 16; omega⟩
  · exact hs
def emptyR (self : Int) : Rw := ⟨putN farD self 0, farP, farP⟩
def setStep (k : Kn) (skip : Int) (r : Rw) : Rw :=
  if rowNone (near k r skip).a (near k r skip).b (near k r skip).c = true then r else ⟨setN r.d (near k r skip).at'.toNat (near k r skip).a, setN r.p (near k r skip).at'.toNat (near k r skip).b, setN r.n (near k r skip).at'.toNat (near k r skip).c⟩
def setTo (k : Kn) (skip : Int) (t : Nat) : Rw := upto (fun _ r => setStep k skip r) (emptyR k.self) t
def settleF (k : Kn) (skip : Int) : Rw := setTo k skip 15
theorem setTo_stop {k : Kn} {skip : Int} {m : Nat} (h : rowNone (near k (setTo k skip m) skip).a (near k (setTo k skip m) skip).b (near k (setTo k skip m) skip).c = true) : ∀ t, m ≤ t → setTo k skip t = setTo k skip m := by
  intro t ht
  induction t with
  | zero => have : m = 0 := by omega
            subst this; rfl
  | succ t ih =>
    by_cases e : m = t + 1
    · rw [e]
    · have e2 := ih (by omega)
      show setStep k skip (setTo k skip t) = _
      rw [e2]; unfold setStep; rw [if_pos h]
set_option maxHeartbeats 4000000 in
theorem settle_ev (K : Nat) (self up : Int) (c : Nat → Int) (tD tP : Nat → Nat → Int) (skip : Int) :
    evF Tryz.prog env xt (K+6) 132 [.d (knD self up c tD tP), .d (.s (.int .i64 (skip)))] = some (.d (rowsD (settleF ⟨self, up, c, tD, tP⟩ skip).d (settleF ⟨self, up, c, tD, tP⟩ skip).p (settleF ⟨self, up, c, tD, tP⟩ skip).n)) := by
  rw [evF_eq Tryz.func132 (show Tryz.f132.body = some _ from rfl) rfl rfl rfl (by show 2 ≤ 28; decide)]
  simp (decide := true) only [empty_ev, Tryz.f132, rid, kl132_3, dp132_5, ↓sBp, sBq, List.all_cons, List.all_nil, List.map_cons, List.map_nil, D.shape, Sh.sub, Sh.size, List.getElem?_cons_zero, List.getElem?_cons_succ, Option.bind_some, Option.bind_none, Option.getD_some, Option.getD_none, V.keysIn, V.kill, V.has, decide_eq_true_eq, beq_iff_eq, bne_iff_ne, ne_eq, Bool.not_eq_true', Bool.and_true, Bool.and_self, Bool.true_and, if_true, if_false, reduceIte, Bool.false_eq_true, decide_true, decide_false, beq_self_eq_true, Bool.not_true, Bool.not_false, true_and, and_true, and_self, List.append_assoc, List.nil_append, List.cons_append, Int.toNat_natCast, ck, Int.cast_ofNat_Int, Int.reduceToNat, bne_self_eq_false, Bool.or_false, Bool.false_or, Bool.false_and, Bool.and_false, Bool.or_true, Bool.true_or]
  generalize hk : (⟨self, up, c, tD, tP⟩ : Kn) = k
  have ks : emptyR k.self = emptyR self := by rw [← hk]
  have nr : ∀ K (r : Rw), evF Tryz.prog env xt (K+5) 147 [.d (knD self up c tD tP), .d (rowsD r.d r.p r.n), .d (.s (.int .i64 (skip)))] = some (.tcons (.d (.s (.int .i64 ((near k r skip).at')))) (.tcons (.d (rowD (near k r skip).a (near k r skip).b (near k r skip).c)) .tnil)) := fun K r => by
    rw [nearest_ev, hk]
  have step : ∀ t, t < 15 → rowNone (near k (setTo k skip t) skip).a (near k (setTo k skip t) skip).b (near k (setTo k skip t) skip).c = false →
      setTo k skip (t + 1) = ⟨setN (setTo k skip t).d (near k (setTo k skip t) skip).at'.toNat (near k (setTo k skip t) skip).a, setN (setTo k skip t).p (near k (setTo k skip t) skip).at'.toNat (near k (setTo k skip t) skip).b, setN (setTo k skip t).n (near k (setTo k skip t) skip).at'.toNat (near k (setTo k skip t) skip).c⟩ ∧ 0 ≤ (near k (setTo k skip t) skip).at' ∧ (near k (setTo k skip t) skip).at' < 16 := fun t _ h => by
    refine ⟨?_, ?_⟩
    · show setStep k skip (setTo k skip t) = _
      unfold setStep; rw [if_neg (by rw [h]; exact Bool.false_ne_true)]
    · rcases near_ok k (setTo k skip t) skip with ⟨_, h2, h3, h4⟩ | h5
      · rw [h2, h3, h4] at h; cases h
      · exact h5
  by_cases he : ∃ m, m < 15 ∧ rowNone (near k (setTo k skip m) skip).a (near k (setTo k skip m) skip).b (near k (setTo k skip m) skip).c = true
  · obtain ⟨m, hm, hz, hf⟩ := first_of he
    rw [iter_run (S := fun t => ⟨tab .junk [(1, .d (.s (.int .i64 (skip)))), (2, .ptr 2 (shK) [] (shK)), (4, .ptr 4 (shRs) [] (shRs)), (5, .ptr 5 (shRs) [] (shRs)), (11, .d (.s (.int .i64 (t))))], tab none [(2, some (.box (knD self up c tD tP))), (4, some (.box (Z40))), (5, some (.box (rowsD (setTo k skip t).d (setTo k skip t).p (setTo k skip t).n)))]⟩) (n := m) (h0 := ?h0) (hn := ?hn) (step := ?step)]
    case h0 => rw [show setTo k skip 0 = emptyR self from ks]; rfl
    case hn => exact lt_loopFuel (by omega)
    case step =>
      intro t ht
      have hk1 : (t : Int) < 15 := by omega
      have hk0 : (0 : Int) ≤ t := by omega
      have hkw := wrap_succ t (by omega)
      have hz' : rowNone (near k (setTo k skip t) skip).a (near k (setTo k skip t) skip).b (near k (setTo k skip t) skip).c = false := by simpa using hf t ht
      obtain ⟨e, b0, b1⟩ := step t (by omega) hz'
      rw [e]
      simp (decide := true) only [hk1, hk0, hkw, nr, none_ev, row_eqv, hz', b0, b1, setN_row, Tryz.f132, rid, kl132_3, dp132_5, ↓sBp, sBq, List.all_cons, List.all_nil, List.map_cons, List.map_nil, D.shape, Sh.sub, Sh.size, List.getElem?_cons_zero, List.getElem?_cons_succ, Option.bind_some, Option.bind_none, Option.getD_some, Option.getD_none, V.keysIn, V.kill, V.has, decide_eq_true_eq, beq_iff_eq, bne_iff_ne, ne_eq, Bool.not_eq_true', Bool.and_true, Bool.and_self, Bool.true_and, if_true, if_false, reduceIte, Bool.false_eq_true, decide_true, decide_false, beq_self_eq_true, Bool.not_true, Bool.not_false, true_and, and_true, and_self, List.append_assoc, List.nil_append, List.cons_append, Int.toNat_natCast, ck, Int.cast_ofNat_Int, Int.reduceToNat, bne_self_eq_false, Bool.or_false, Bool.false_or, Bool.false_and, Bool.and_false, Bool.or_true, Bool.true_or]
    have hk1 : (m : Int) < 15 := by omega
    have ef : settleF k skip = setTo k skip m := setTo_stop hz 15 (by omega)
    simp (decide := true) only [hk1, nr, none_ev, row_eqv, hz, ef, Tryz.f132, rid, kl132_3, dp132_5, ↓sBp, sBq, List.all_cons, List.all_nil, List.map_cons, List.map_nil, D.shape, Sh.sub, Sh.size, List.getElem?_cons_zero, List.getElem?_cons_succ, Option.bind_some, Option.bind_none, Option.getD_some, Option.getD_none, V.keysIn, V.kill, V.has, decide_eq_true_eq, beq_iff_eq, bne_iff_ne, ne_eq, Bool.not_eq_true', Bool.and_true, Bool.and_self, Bool.true_and, if_true, if_false, reduceIte, Bool.false_eq_true, decide_true, decide_false, beq_self_eq_true, Bool.not_true, Bool.not_false, true_and, and_true, and_self, List.append_assoc, List.nil_append, List.cons_append, Int.toNat_natCast, ck, Int.cast_ofNat_Int, Int.reduceToNat, bne_self_eq_false, Bool.or_false, Bool.false_or, Bool.false_and, Bool.and_false, Bool.or_true, Bool.true_or]
  · rw [iter_run (S := fun t => ⟨tab .junk [(1, .d (.s (.int .i64 (skip)))), (2, .ptr 2 (shK) [] (shK)), (4, .ptr 4 (shRs) [] (shRs)), (5, .ptr 5 (shRs) [] (shRs)), (11, .d (.s (.int .i64 (t))))], tab none [(2, some (.box (knD self up c tD tP))), (4, some (.box (Z40))), (5, some (.box (rowsD (setTo k skip t).d (setTo k skip t).p (setTo k skip t).n)))]⟩) (n := 15) (h0 := ?h0) (hn := lt_loopFuel (by decide)) (step := ?step)]
    case h0 => rw [show setTo k skip 0 = emptyR self from ks]; rfl
    case step =>
      intro t ht
      have hk1 : (t : Int) < 15 := by omega
      have hk0 : (0 : Int) ≤ t := by omega
      have hkw := wrap_succ t (by omega)
      have hz' : rowNone (near k (setTo k skip t) skip).a (near k (setTo k skip t) skip).b (near k (setTo k skip t) skip).c = false := by simpa using fun h => he ⟨t, ht, h⟩
      obtain ⟨e, b0, b1⟩ := step t (by omega) hz'
      rw [e]
      simp (decide := true) only [hk1, hk0, hkw, nr, none_ev, row_eqv, hz', b0, b1, setN_row, Tryz.f132, rid, kl132_3, dp132_5, ↓sBp, sBq, List.all_cons, List.all_nil, List.map_cons, List.map_nil, D.shape, Sh.sub, Sh.size, List.getElem?_cons_zero, List.getElem?_cons_succ, Option.bind_some, Option.bind_none, Option.getD_some, Option.getD_none, V.keysIn, V.kill, V.has, decide_eq_true_eq, beq_iff_eq, bne_iff_ne, ne_eq, Bool.not_eq_true', Bool.and_true, Bool.and_self, Bool.true_and, if_true, if_false, reduceIte, Bool.false_eq_true, decide_true, decide_false, beq_self_eq_true, Bool.not_true, Bool.not_false, true_and, and_true, and_self, List.append_assoc, List.nil_append, List.cons_append, Int.toNat_natCast, ck, Int.cast_ofNat_Int, Int.reduceToNat, bne_self_eq_false, Bool.or_false, Bool.false_or, Bool.false_and, Bool.and_false, Bool.or_true, Bool.true_or]
    simp (decide := true) only [settleF, Tryz.f132, rid, kl132_3, dp132_5, ↓sBp, sBq, List.all_cons, List.all_nil, List.map_cons, List.map_nil, D.shape, Sh.sub, Sh.size, List.getElem?_cons_zero, List.getElem?_cons_succ, Option.bind_some, Option.bind_none, Option.getD_some, Option.getD_none, V.keysIn, V.kill, V.has, decide_eq_true_eq, beq_iff_eq, bne_iff_ne, ne_eq, Bool.not_eq_true', Bool.and_true, Bool.and_self, Bool.true_and, if_true, if_false, reduceIte, Bool.false_eq_true, decide_true, decide_false, beq_self_eq_true, Bool.not_true, Bool.not_false, true_and, and_true, and_self, List.append_assoc, List.nil_append, List.cons_append, Int.toNat_natCast, ck, Int.cast_ofNat_Int, Int.reduceToNat, bne_self_eq_false, Bool.or_false, Bool.false_or, Bool.false_and, Bool.and_false, Bool.or_true, Bool.true_or]
end Go.Proofs.YtjceimcepogkaaaGreatDoor.Ev
