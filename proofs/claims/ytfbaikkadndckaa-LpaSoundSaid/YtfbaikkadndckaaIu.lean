/- merge.Items: what is told, asked and replied. -/
import Derived.Test.YtfbaikkadndckaaIt
import Derived.Test.YtfbaikkadndckaaNz
namespace Go.Proofs.Ytfbaikkadndckaa.Ev
open Go
attribute [local congr] ob_congr sq_congr cd_congr ite_congr1 iter_congr it1_congr jumps_congr
set_option maxRecDepth 100000
set_option linter.unusedSimpArgs false
set_option linter.unusedVariables false
open Go.RowKit
theorem hcall9 : ∀ g l r, evF Try.prog env noext 9 g l = some r → CallOK Try.prog g l r := evF_sound env_ok fns_ok (fun _ _ _ h => by cases h) 9
theorem itemsTo_succ (d p : Nat → Int) (tell ask reply : Int) (k : Nat) : itemsTo d p tell ask reply (k + 1) = itemsTo d p tell ask reply k ++ rndI d p tell ask reply k := rfl
theorem rndI_len (d p : Nat → Int) (tell ask reply : Int) (k : Nat) : (rndI d p tell ask reply k).length ≤ 3 := by
  unfold rndI
  rw [List.length_append, List.length_append]
  split <;> split <;> split <;> simp
theorem itemsTo_len (d p : Nat → Int) (tell ask reply : Int) : ∀ k, (itemsTo d p tell ask reply k).length ≤ 3 * k
  | 0 => Nat.le_refl _
  | k + 1 => by
    have := itemsTo_len d p tell ask reply k
    have := rndI_len d p tell ask reply k
    rw [itemsTo_succ, List.length_append]; omega
noncomputable def roundC : Code := match Try.f42.body with
  | some (.seq _ (.seq _ (.seq (.seq _ (.block _ (.loop c))) _))) => c
  | _ => .skip
theorem tab_free : ∀ (l : List (Nat × V)), (l.all fun p => p.2.free) = true → ∀ i, (tab V.junk l i).free = true
  | [], _, _ => rfl
  | (k, v) :: l, h, i => by
    simp only [List.all_cons, Bool.and_eq_true] at h
    simp only [tab]
    split
    · exact h.1
    · exact tab_free l h.2 i
section
variable (d p : Nat → Int) (tell ask reply : Int) (g : Nat)
abbrev I0 (k : Nat) : St := ⟨tab .junk [(1, .d (.s (.int .i64 (tell)))), (2, .d (.s (.int .i64 (ask)))), (3, .d (.s (.int .i64 (reply)))), (9, .d (.s (ptrV g))), (15, .d (treeD d p)), (16, .d (.s (.int .i64 (k))))], tab none []⟩
abbrev I3 (k : Nat) (b : Bool) : St := ⟨tab .junk [(1, .d (.s (.int .i64 (tell)))), (2, .d (.s (.int .i64 (ask)))), (3, .d (.s (.int .i64 (reply)))), (9, .d (.s (ptrV g))), (15, .d (treeD d p)), (16, .d (.s (.int .i64 (k)))), (17, .d (.s (.bool (b))))], tab none []⟩
abbrev mI (k : Nat) : Nat → Option Bk := tab none [(10, some (.box (dI k))), (11, some (.box (entD (d k) (p k))))]
abbrev I4 (k : Nat) : St := ⟨tab .junk [(1, .d (.s (.int .i64 (tell)))), (2, .d (.s (.int .i64 (ask)))), (3, .d (.s (.int .i64 (reply)))), (9, .d (.s (ptrV g))), (10, .ptr 10 (cI) [] (cI)), (11, .ptr 11 (shE) [] (shE)), (15, .d (treeD d p)), (16, .d (.s (.int .i64 (k))))], mI d p k⟩
abbrev I5 (k : Nat) : St := ⟨tab .junk [(1, .d (.s (.int .i64 (tell)))), (2, .d (.s (.int .i64 (ask)))), (3, .d (.s (.int .i64 (reply)))), (9, .d (.s (ptrV g))), (10, .ptr 10 (cI) [] (cI)), (11, .ptr 11 (shE) [] (shE)), (12, putV g), (15, .d (treeD d p)), (16, .d (.s (.int .i64 (k))))], mI d p k⟩
abbrev I6 (k : Nat) : St := ⟨tab .junk [(1, .d (.s (.int .i64 (tell)))), (2, .d (.s (.int .i64 (ask)))), (3, .d (.s (.int .i64 (reply)))), (9, .d (.s (ptrV g))), (10, .ptr 10 (cI) [] (cI)), (11, .ptr 11 (shE) [] (shE)), (12, putV g), (13, .d (.s (.bool (has ask k)))), (14, .d (.s (.bool (has reply k)))), (15, .d (treeD d p)), (16, .d (.s (.int .i64 (k))))], mI d p k⟩
abbrev I7 (k j : Nat) (b : Bool) : St := ⟨tab .junk [(1, .d (.s (.int .i64 (tell)))), (2, .d (.s (.int .i64 (ask)))), (3, .d (.s (.int .i64 (reply)))), (9, .d (.s (ptrV g))), (10, .ptr 10 (cI) [] (cI)), (11, .ptr 11 (shE) [] (shE)), (12, putV g), (13, .d (.s (.bool (has ask k)))), (14, .d (.s (.bool (has reply k)))), (15, .d (treeD d p)), (16, .d (.s (.int .i64 (k)))), (j, .d (.s (.bool (b))))], mI d p k⟩
variable {d p tell ask reply g}
theorem round_items {B : Nat} {W : World} {k : Nat} (hk : k < 16) {a : Act} {w : World} {es : List D} (hes : es.length + 3 ≤ 1000) (h : HR B W 48 g shI es (I0 d p tell ask reply g k) a w) {Q : Exit → Act → World → Prop}
    (hQ : ∀ a' w', HR B W 48 g shI (es ++ rndI d p tell ask reply k) (I0 d p tell ask reply g (k + 1)) a' w' → Q .normal a' w') : roundC.wp Try.prog Q a w := by
  have hk1 : (k : Int) < 16 := by omega
  have hk0 : (0 : Int) ≤ k := by omega
  have hkw := wrap_succ k (by omega)
  refine wp_seq ?_
  refine h.piece (b := ([1, 2, 3, 9, 15, 16, 17], [])) (s' := I3 d p tell ask reply g k true) (fn := 42) (lf := loopFuel) env_ok hcall9 (by kernel_rfl) ?e1 (fun a w h => ?_)
  case e1 => simp (decide := true) only [hk1, Try.f42, rid, kl42_3, dp42_6, ↓sBp, sBq, List.all_cons, List.all_nil, List.map_cons, List.map_nil, D.shape, Sh.sub, Sh.size, List.getElem?_cons_zero, List.getElem?_cons_succ, Option.bind_some, Option.bind_none, Option.getD_some, Option.getD_none, V.keysIn, V.kill, V.has, decide_eq_true_eq, beq_iff_eq, bne_iff_ne, ne_eq, Bool.not_eq_true', Bool.and_true, Bool.and_self, Bool.true_and, if_true, if_false, reduceIte, Bool.false_eq_true, decide_true, decide_false, beq_self_eq_true, Bool.not_true, Bool.not_false, true_and, and_true, and_self, List.append_assoc, List.nil_append, List.cons_append, Int.toNat_natCast, ck, Int.cast_ofNat_Int, Int.reduceToNat, bne_self_eq_false, Bool.or_false, Bool.false_or, Bool.false_and, Bool.and_false, Bool.or_true, Bool.true_or]
  refine wp_seq ?_
  refine wp_cond_true (h.slot (i := 17) rfl) (wp_skip ?_)
  refine wp_seq ?_
  refine wp_block ?_
  refine wp_seq ?_
  refine h.piece (b := ([1, 2, 3, 9, 10, 11, 15, 16], [10, 11])) (s' := I4 d p tell ask reply g k) (fn := 42) (lf := loopFuel) env_ok hcall9 (by kernel_rfl) ?e2 (fun a w h => ?_)
  case e2 => simp (decide := true) only [hk1, hk0, Try.f42, rid, kl42_3, dp42_6, ↓sBp, sBq, List.all_cons, List.all_nil, List.map_cons, List.map_nil, D.shape, Sh.sub, Sh.size, List.getElem?_cons_zero, List.getElem?_cons_succ, Option.bind_some, Option.bind_none, Option.getD_some, Option.getD_none, V.keysIn, V.kill, V.has, decide_eq_true_eq, beq_iff_eq, bne_iff_ne, ne_eq, Bool.not_eq_true', Bool.and_true, Bool.and_self, Bool.true_and, if_true, if_false, reduceIte, Bool.false_eq_true, decide_true, decide_false, beq_self_eq_true, Bool.not_true, Bool.not_false, true_and, and_true, and_self, List.append_assoc, List.nil_append, List.cons_append, Int.toNat_natCast, ck, Int.cast_ofNat_Int, Int.reduceToNat, bne_self_eq_false, Bool.or_false, Bool.false_or, Bool.false_and, Bool.and_false, Bool.or_true, Bool.true_or]
  refine wp_seq ?_
  refine h.piece (b := ([1, 2, 3, 9, 10, 11, 12, 15, 16], [10, 11])) (s' := I5 d p tell ask reply g k) (fn := 42) (lf := loopFuel) env_ok hcall9 (by kernel_rfl) ?e3 (fun a w h => ?_)
  case e3 => simp (decide := true) only [Try.f42, rid, kl42_3, dp42_6, ↓sBp, sBq, List.all_cons, List.all_nil, List.map_cons, List.map_nil, D.shape, Sh.sub, Sh.size, List.getElem?_cons_zero, List.getElem?_cons_succ, Option.bind_some, Option.bind_none, Option.getD_some, Option.getD_none, V.keysIn, V.kill, V.has, decide_eq_true_eq, beq_iff_eq, bne_iff_ne, ne_eq, Bool.not_eq_true', Bool.and_true, Bool.and_self, Bool.true_and, if_true, if_false, reduceIte, Bool.false_eq_true, decide_true, decide_false, beq_self_eq_true, Bool.not_true, Bool.not_false, true_and, and_true, and_self, List.append_assoc, List.nil_append, List.cons_append, Int.toNat_natCast, ck, Int.cast_ofNat_Int, Int.reduceToNat, bne_self_eq_false, Bool.or_false, Bool.false_or, Bool.false_and, Bool.and_false, Bool.or_true, Bool.true_or]
  refine wp_seq ?_
  refine h.piece (b := ([1, 2, 3, 9, 10, 11, 12, 13, 14, 15, 16], [10, 11])) (s' := I6 d p tell ask reply g k) (fn := 42) (lf := loopFuel) env_ok hcall9 (by kernel_rfl) ?e4 (fun a w h => ?_)
  case e4 => simp (decide := true) only [has_ev0, Try.f42, rid, kl42_3, dp42_6, ↓sBp, sBq, List.all_cons, List.all_nil, List.map_cons, List.map_nil, D.shape, Sh.sub, Sh.size, List.getElem?_cons_zero, List.getElem?_cons_succ, Option.bind_some, Option.bind_none, Option.getD_some, Option.getD_none, V.keysIn, V.kill, V.has, decide_eq_true_eq, beq_iff_eq, bne_iff_ne, ne_eq, Bool.not_eq_true', Bool.and_true, Bool.and_self, Bool.true_and, if_true, if_false, reduceIte, Bool.false_eq_true, decide_true, decide_false, beq_self_eq_true, Bool.not_true, Bool.not_false, true_and, and_true, and_self, List.append_assoc, List.nil_append, List.cons_append, Int.toNat_natCast, ck, Int.cast_ofNat_Int, Int.reduceToNat, bne_self_eq_false, Bool.or_false, Bool.false_or, Bool.false_and, Bool.and_false, Bool.or_true, Bool.true_or]
  refine wp_seq ?_
  refine wp_seq ?_
  refine h.piece (b := ([1, 2, 3, 9, 10, 11, 12, 13, 14, 15, 16, 27], [10, 11])) (s' := I7 d p tell ask reply g k 27 (has ask k)) (fn := 42) (lf := loopFuel) env_ok hcall9 (by kernel_rfl) ?e5 (fun a w h => ?_)
  case e5 => simp (decide := true) only [Try.f42, rid, kl42_3, dp42_6, ↓sBp, sBq, List.all_cons, List.all_nil, List.map_cons, List.map_nil, D.shape, Sh.sub, Sh.size, List.getElem?_cons_zero, List.getElem?_cons_succ, Option.bind_some, Option.bind_none, Option.getD_some, Option.getD_none, V.keysIn, V.kill, V.has, decide_eq_true_eq, beq_iff_eq, bne_iff_ne, ne_eq, Bool.not_eq_true', Bool.and_true, Bool.and_self, Bool.true_and, if_true, if_false, reduceIte, Bool.false_eq_true, decide_true, decide_false, beq_self_eq_true, Bool.not_true, Bool.not_false, true_and, and_true, and_self, List.append_assoc, List.nil_append, List.cons_append, Int.toNat_natCast, ck, Int.cast_ofNat_Int, Int.reduceToNat, bne_self_eq_false, Bool.or_false, Bool.false_or, Bool.false_and, Bool.and_false, Bool.or_true, Bool.true_or]
  -- asked
  suffices hA : ∀ a w, HR B W 48 g shI (es ++ (if has ask k = true then [itD k 1 (d k) (p k)] else [])) (I6 d p tell ask reply g k) a w → _ by
    cases ha : has ask k with
    | true =>
      rw [ha] at h hA
      refine wp_cond_true (h.slot (i := 27) rfl) ?_
      refine h.put (tab_free _ rfl) rfl rfl rfl (by omega) (by decide) (by decide) rfl rfl fun a w h => ?_
      rw [if_pos rfl] at hA
      refine hA a w (h.forget (b := ([1, 2, 3, 9, 10, 11, 12, 13, 14, 15, 16], [10, 11])) ?_)
      simp (decide := true) only [ha, I6, Try.f42, rid, kl42_3, dp42_6, ↓sBp, sBq, List.all_cons, List.all_nil, List.map_cons, List.map_nil, D.shape, Sh.sub, Sh.size, List.getElem?_cons_zero, List.getElem?_cons_succ, Option.bind_some, Option.bind_none, Option.getD_some, Option.getD_none, V.keysIn, V.kill, V.has, decide_eq_true_eq, beq_iff_eq, bne_iff_ne, ne_eq, Bool.not_eq_true', Bool.and_true, Bool.and_self, Bool.true_and, if_true, if_false, reduceIte, Bool.false_eq_true, decide_true, decide_false, beq_self_eq_true, Bool.not_true, Bool.not_false, true_and, and_true, and_self, List.append_assoc, List.nil_append, List.cons_append, Int.toNat_natCast, ck, Int.cast_ofNat_Int, Int.reduceToNat, bne_self_eq_false, Bool.or_false, Bool.false_or, Bool.false_and, Bool.and_false, Bool.or_true, Bool.true_or]
    | false =>
      rw [ha] at h hA
      refine wp_cond_false (h.slot (i := 27) rfl) (wp_skip ?_)
      rw [if_neg Bool.false_ne_true, List.append_nil] at hA
      refine hA a w (h.forget (b := ([1, 2, 3, 9, 10, 11, 12, 13, 14, 15, 16], [10, 11])) ?_)
      simp (decide := true) only [ha, I6, Try.f42, rid, kl42_3, dp42_6, ↓sBp, sBq, List.all_cons, List.all_nil, List.map_cons, List.map_nil, D.shape, Sh.sub, Sh.size, List.getElem?_cons_zero, List.getElem?_cons_succ, Option.bind_some, Option.bind_none, Option.getD_some, Option.getD_none, V.keysIn, V.kill, V.has, decide_eq_true_eq, beq_iff_eq, bne_iff_ne, ne_eq, Bool.not_eq_true', Bool.and_true, Bool.and_self, Bool.true_and, if_true, if_false, reduceIte, Bool.false_eq_true, decide_true, decide_false, beq_self_eq_true, Bool.not_true, Bool.not_false, true_and, and_true, and_self, List.append_assoc, List.nil_append, List.cons_append, Int.toNat_natCast, ck, Int.cast_ofNat_Int, Int.reduceToNat, bne_self_eq_false, Bool.or_false, Bool.false_or, Bool.false_and, Bool.and_false, Bool.or_true, Bool.true_or]
  clear h
  intro a w h
  refine wp_seq ?_
  refine wp_seq ?_
  refine h.piece (b := ([1, 2, 3, 9, 10, 11, 12, 13, 14, 15, 16, 30], [10, 11])) (s' := I7 d p tell ask reply g k 30 (has reply k)) (fn := 42) (lf := loopFuel) env_ok hcall9 (by kernel_rfl) ?e6 (fun a w h => ?_)
  case e6 => simp (decide := true) only [Try.f42, rid, kl42_3, dp42_6, ↓sBp, sBq, List.all_cons, List.all_nil, List.map_cons, List.map_nil, D.shape, Sh.sub, Sh.size, List.getElem?_cons_zero, List.getElem?_cons_succ, Option.bind_some, Option.bind_none, Option.getD_some, Option.getD_none, V.keysIn, V.kill, V.has, decide_eq_true_eq, beq_iff_eq, bne_iff_ne, ne_eq, Bool.not_eq_true', Bool.and_true, Bool.and_self, Bool.true_and, if_true, if_false, reduceIte, Bool.false_eq_true, decide_true, decide_false, beq_self_eq_true, Bool.not_true, Bool.not_false, true_and, and_true, and_self, List.append_assoc, List.nil_append, List.cons_append, Int.toNat_natCast, ck, Int.cast_ofNat_Int, Int.reduceToNat, bne_self_eq_false, Bool.or_false, Bool.false_or, Bool.false_and, Bool.and_false, Bool.or_true, Bool.true_or]
  suffices hB : ∀ a w, HR B W 48 g shI ((es ++ (if has ask k = true then [itD k 1 (d k) (p k)] else [])) ++ (if has reply k = true then [itD k 2 (d k) (p k)] else [])) (I6 d p tell ask reply g k) a w → _ by
    have hl1 : (es ++ (if has ask k = true then [itD k 1 (d k) (p k)] else [])).length ≤ 1000 := by
      rw [List.length_append]; split <;> simp <;> omega
    cases hr : has reply k with
    | true =>
      rw [hr] at h hB
      refine wp_cond_true (h.slot (i := 30) rfl) ?_
      refine h.put (tab_free _ rfl) rfl rfl rfl hl1 (by decide) (by decide) rfl rfl fun a w h => ?_
      rw [if_pos (rfl : true = true)] at hB
      refine hB a w (h.forget (b := ([1, 2, 3, 9, 10, 11, 12, 13, 14, 15, 16], [10, 11])) ?_)
      simp (decide := true) only [hr, I6, Try.f42, rid, kl42_3, dp42_6, ↓sBp, sBq, List.all_cons, List.all_nil, List.map_cons, List.map_nil, D.shape, Sh.sub, Sh.size, List.getElem?_cons_zero, List.getElem?_cons_succ, Option.bind_some, Option.bind_none, Option.getD_some, Option.getD_none, V.keysIn, V.kill, V.has, decide_eq_true_eq, beq_iff_eq, bne_iff_ne, ne_eq, Bool.not_eq_true', Bool.and_true, Bool.and_self, Bool.true_and, if_true, if_false, reduceIte, Bool.false_eq_true, decide_true, decide_false, beq_self_eq_true, Bool.not_true, Bool.not_false, true_and, and_true, and_self, List.append_assoc, List.nil_append, List.cons_append, Int.toNat_natCast, ck, Int.cast_ofNat_Int, Int.reduceToNat, bne_self_eq_false, Bool.or_false, Bool.false_or, Bool.false_and, Bool.and_false, Bool.or_true, Bool.true_or]
    | false =>
      rw [hr] at h hB
      refine wp_cond_false (h.slot (i := 30) rfl) (wp_skip ?_)
      rw [if_neg Bool.false_ne_true, List.append_nil] at hB
      refine hB a w (h.forget (b := ([1, 2, 3, 9, 10, 11, 12, 13, 14, 15, 16], [10, 11])) ?_)
      simp (decide := true) only [hr, I6, Try.f42, rid, kl42_3, dp42_6, ↓sBp, sBq, List.all_cons, List.all_nil, List.map_cons, List.map_nil, D.shape, Sh.sub, Sh.size, List.getElem?_cons_zero, List.getElem?_cons_succ, Option.bind_some, Option.bind_none, Option.getD_some, Option.getD_none, V.keysIn, V.kill, V.has, decide_eq_true_eq, beq_iff_eq, bne_iff_ne, ne_eq, Bool.not_eq_true', Bool.and_true, Bool.and_self, Bool.true_and, if_true, if_false, reduceIte, Bool.false_eq_true, decide_true, decide_false, beq_self_eq_true, Bool.not_true, Bool.not_false, true_and, and_true, and_self, List.append_assoc, List.nil_append, List.cons_append, Int.toNat_natCast, ck, Int.cast_ofNat_Int, Int.reduceToNat, bne_self_eq_false, Bool.or_false, Bool.false_or, Bool.false_and, Bool.and_false, Bool.or_true, Bool.true_or]
  clear h
  intro a w h
  refine wp_seq ?_
  refine h.piece (b := ([1, 2, 3, 9, 10, 11, 12, 13, 14, 15, 16, 43], [10, 11])) (s' := I7 d p tell ask reply g k 43 (has tell k && (!has ask k && !has reply k))) (fn := 42) (lf := loopFuel) env_ok hcall9 (by kernel_rfl) ?e7 (fun a w h => ?_)
  case e7 =>
    rcases Bool.eq_false_or_eq_true (has tell k) with ht | ht
    · rcases Bool.eq_false_or_eq_true (has ask k) with ha | ha
      · simp (decide := true) only [has_ev0, ht, ha, I7, Try.f42, rid, kl42_3, dp42_6, ↓sBp, sBq, List.all_cons, List.all_nil, List.map_cons, List.map_nil, D.shape, Sh.sub, Sh.size, List.getElem?_cons_zero, List.getElem?_cons_succ, Option.bind_some, Option.bind_none, Option.getD_some, Option.getD_none, V.keysIn, V.kill, V.has, decide_eq_true_eq, beq_iff_eq, bne_iff_ne, ne_eq, Bool.not_eq_true', Bool.and_true, Bool.and_self, Bool.true_and, if_true, if_false, reduceIte, Bool.false_eq_true, decide_true, decide_false, beq_self_eq_true, Bool.not_true, Bool.not_false, true_and, and_true, and_self, List.append_assoc, List.nil_append, List.cons_append, Int.toNat_natCast, ck, Int.cast_ofNat_Int, Int.reduceToNat, bne_self_eq_false, Bool.or_false, Bool.false_or, Bool.false_and, Bool.and_false, Bool.or_true, Bool.true_or]
      · rcases Bool.eq_false_or_eq_true (has reply k) with hr | hr
        · simp (decide := true) only [has_ev0, ht, ha, hr, I7, Try.f42, rid, kl42_3, dp42_6, ↓sBp, sBq, List.all_cons, List.all_nil, List.map_cons, List.map_nil, D.shape, Sh.sub, Sh.size, List.getElem?_cons_zero, List.getElem?_cons_succ, Option.bind_some, Option.bind_none, Option.getD_some, Option.getD_none, V.keysIn, V.kill, V.has, decide_eq_true_eq, beq_iff_eq, bne_iff_ne, ne_eq, Bool.not_eq_true', Bool.and_true, Bool.and_self, Bool.true_and, if_true, if_false, reduceIte, Bool.false_eq_true, decide_true, decide_false, beq_self_eq_true, Bool.not_true, Bool.not_false, true_and, and_true, and_self, List.append_assoc, List.nil_append, List.cons_append, Int.toNat_natCast, ck, Int.cast_ofNat_Int, Int.reduceToNat, bne_self_eq_false, Bool.or_false, Bool.false_or, Bool.false_and, Bool.and_false, Bool.or_true, Bool.true_or]
        · simp (decide := true) only [has_ev0, ht, ha, hr, I7, Try.f42, rid, kl42_3, dp42_6, ↓sBp, sBq, List.all_cons, List.all_nil, List.map_cons, List.map_nil, D.shape, Sh.sub, Sh.size, List.getElem?_cons_zero, List.getElem?_cons_succ, Option.bind_some, Option.bind_none, Option.getD_some, Option.getD_none, V.keysIn, V.kill, V.has, decide_eq_true_eq, beq_iff_eq, bne_iff_ne, ne_eq, Bool.not_eq_true', Bool.and_true, Bool.and_self, Bool.true_and, if_true, if_false, reduceIte, Bool.false_eq_true, decide_true, decide_false, beq_self_eq_true, Bool.not_true, Bool.not_false, true_and, and_true, and_self, List.append_assoc, List.nil_append, List.cons_append, Int.toNat_natCast, ck, Int.cast_ofNat_Int, Int.reduceToNat, bne_self_eq_false, Bool.or_false, Bool.false_or, Bool.false_and, Bool.and_false, Bool.or_true, Bool.true_or]
    · simp (decide := true) only [has_ev0, ht, I7, Try.f42, rid, kl42_3, dp42_6, ↓sBp, sBq, List.all_cons, List.all_nil, List.map_cons, List.map_nil, D.shape, Sh.sub, Sh.size, List.getElem?_cons_zero, List.getElem?_cons_succ, Option.bind_some, Option.bind_none, Option.getD_some, Option.getD_none, V.keysIn, V.kill, V.has, decide_eq_true_eq, beq_iff_eq, bne_iff_ne, ne_eq, Bool.not_eq_true', Bool.and_true, Bool.and_self, Bool.true_and, if_true, if_false, reduceIte, Bool.false_eq_true, decide_true, decide_false, beq_self_eq_true, Bool.not_true, Bool.not_false, true_and, and_true, and_self, List.append_assoc, List.nil_append, List.cons_append, Int.toNat_natCast, ck, Int.cast_ofNat_Int, Int.reduceToNat, bne_self_eq_false, Bool.or_false, Bool.false_or, Bool.false_and, Bool.and_false, Bool.or_true, Bool.true_or]
  suffices hC : ∀ a w, HR B W 48 g shI (es ++ rndI d p tell ask reply k) (I6 d p tell ask reply g k) a w → _ by
    have hl2 : ((es ++ (if has ask k = true then [itD k 1 (d k) (p k)] else [])) ++ (if has reply k = true then [itD k 2 (d k) (p k)] else [])).length ≤ 1000 := by
      rw [List.length_append, List.length_append]; split <;> split <;> simp <;> omega
    have er : es ++ rndI d p tell ask reply k = ((es ++ (if has ask k = true then [itD k 1 (d k) (p k)] else [])) ++ (if has reply k = true then [itD k 2 (d k) (p k)] else [])) ++ (if (has tell k && (!has ask k && !has reply k)) = true then [itD k 0 (d k) (p k)] else []) := by
      unfold rndI; simp only [List.append_assoc]
    rw [er] at hC
    cases hb : (has tell k && (!has ask k && !has reply k)) with
    | true =>
      rw [hb] at h hC
      refine wp_cond_true (h.slot (i := 43) rfl) ?_
      refine h.put (tab_free _ rfl) rfl rfl rfl hl2 (by decide) (by decide) rfl rfl fun a w h => ?_
      rw [if_pos (rfl : true = true)] at hC
      refine hC a w (h.forget (b := ([1, 2, 3, 9, 10, 11, 12, 13, 14, 15, 16], [10, 11])) ?_)
      simp (decide := true) only [I6, Try.f42, rid, kl42_3, dp42_6, ↓sBp, sBq, List.all_cons, List.all_nil, List.map_cons, List.map_nil, D.shape, Sh.sub, Sh.size, List.getElem?_cons_zero, List.getElem?_cons_succ, Option.bind_some, Option.bind_none, Option.getD_some, Option.getD_none, V.keysIn, V.kill, V.has, decide_eq_true_eq, beq_iff_eq, bne_iff_ne, ne_eq, Bool.not_eq_true', Bool.and_true, Bool.and_self, Bool.true_and, if_true, if_false, reduceIte, Bool.false_eq_true, decide_true, decide_false, beq_self_eq_true, Bool.not_true, Bool.not_false, true_and, and_true, and_self, List.append_assoc, List.nil_append, List.cons_append, Int.toNat_natCast, ck, Int.cast_ofNat_Int, Int.reduceToNat, bne_self_eq_false, Bool.or_false, Bool.false_or, Bool.false_and, Bool.and_false, Bool.or_true, Bool.true_or]
    | false =>
      rw [hb] at h hC
      refine wp_cond_false (h.slot (i := 43) rfl) (wp_skip ?_)
      rw [if_neg Bool.false_ne_true, List.append_nil] at hC
      refine hC a w (h.forget (b := ([1, 2, 3, 9, 10, 11, 12, 13, 14, 15, 16], [10, 11])) ?_)
      simp (decide := true) only [I6, Try.f42, rid, kl42_3, dp42_6, ↓sBp, sBq, List.all_cons, List.all_nil, List.map_cons, List.map_nil, D.shape, Sh.sub, Sh.size, List.getElem?_cons_zero, List.getElem?_cons_succ, Option.bind_some, Option.bind_none, Option.getD_some, Option.getD_none, V.keysIn, V.kill, V.has, decide_eq_true_eq, beq_iff_eq, bne_iff_ne, ne_eq, Bool.not_eq_true', Bool.and_true, Bool.and_self, Bool.true_and, if_true, if_false, reduceIte, Bool.false_eq_true, decide_true, decide_false, beq_self_eq_true, Bool.not_true, Bool.not_false, true_and, and_true, and_self, List.append_assoc, List.nil_append, List.cons_append, Int.toNat_natCast, ck, Int.cast_ofNat_Int, Int.reduceToNat, bne_self_eq_false, Bool.or_false, Bool.false_or, Bool.false_and, Bool.and_false, Bool.or_true, Bool.true_or]
  clear h
  intro a w h
  refine h.piece (b := ([1, 2, 3, 9, 15, 16], [])) (s' := I0 d p tell ask reply g (k + 1)) (fn := 42) (lf := loopFuel) env_ok hcall9 (by kernel_rfl) ?e8 (fun a w h => ?_)
  case e8 => simp (decide := true) only [hkw, Try.f42, rid, kl42_3, dp42_6, ↓sBp, sBq, List.all_cons, List.all_nil, List.map_cons, List.map_nil, D.shape, Sh.sub, Sh.size, List.getElem?_cons_zero, List.getElem?_cons_succ, Option.bind_some, Option.bind_none, Option.getD_some, Option.getD_none, V.keysIn, V.kill, V.has, decide_eq_true_eq, beq_iff_eq, bne_iff_ne, ne_eq, Bool.not_eq_true', Bool.and_true, Bool.and_self, Bool.true_and, if_true, if_false, reduceIte, Bool.false_eq_true, decide_true, decide_false, beq_self_eq_true, Bool.not_true, Bool.not_false, true_and, and_true, and_self, List.append_assoc, List.nil_append, List.cons_append, Int.toNat_natCast, ck, Int.cast_ofNat_Int, Int.reduceToNat, bne_self_eq_false, Bool.or_false, Bool.false_or, Bool.false_and, Bool.and_false, Bool.or_true, Bool.true_or]
  exact hQ a w h
theorem rounds_items {B : Nat} {W : World} {Q : Exit → Act → World → Prop} (hQ : ∀ a w, HR B W 48 g shI (itemsTo d p tell ask reply 16) (I3 d p tell ask reply g 16 false) a w → Q (.exit 0) a w) :
    ∀ (m k : Nat), k + m = 16 → ∀ a w, HR B W 48 g shI (itemsTo d p tell ask reply k) (I0 d p tell ask reply g k) a w → Code.rounds Try.prog roundC Q (m + 1) a w
  | 0, k, hk, a, w, h => by
    obtain rfl : k = 16 := by omega
    rw [rounds_succ]
    refine wp_seq ?_
    refine h.piece (b := ([1, 2, 3, 9, 15, 16, 17], [])) (s' := I3 d p tell ask reply g 16 false) (fn := 42) (lf := loopFuel) env_ok hcall9 (by kernel_rfl) ?e1 (fun a w h => ?_)
    case e1 =>
      simp (decide := true) only [Try.f42, rid, kl42_3, dp42_6, ↓sBp, sBq, List.all_cons, List.all_nil, List.map_cons, List.map_nil, D.shape, Sh.sub, Sh.size, List.getElem?_cons_zero, List.getElem?_cons_succ, Option.bind_some, Option.bind_none, Option.getD_some, Option.getD_none, V.keysIn, V.kill, V.has, decide_eq_true_eq, beq_iff_eq, bne_iff_ne, ne_eq, Bool.not_eq_true', Bool.and_true, Bool.and_self, Bool.true_and, if_true, if_false, reduceIte, Bool.false_eq_true, decide_true, decide_false, beq_self_eq_true, Bool.not_true, Bool.not_false, true_and, and_true, and_self, List.append_assoc, List.nil_append, List.cons_append, Int.toNat_natCast, ck, Int.cast_ofNat_Int, Int.reduceToNat, bne_self_eq_false, Bool.or_false, Bool.false_or, Bool.false_and, Bool.and_false, Bool.or_true, Bool.true_or]
      rfl
    refine wp_seq ?_
    exact wp_cond_false (h.slot (i := 17) rfl) (wp_exit (hQ a w h))
  | m + 1, k, hk, a, w, h => by
    rw [rounds_succ]
    have hl := itemsTo_len d p tell ask reply k
    exact round_items (by omega) (by omega) h fun a w h => rounds_items hQ m (k + 1) (by omega) a w h
end
theorem itemsFn : ∃ fn, Try.prog.funcs[42]? = some fn ∧ fn.body.isNone = false ∧ (fn.name == "runtime.NumGoroutine") = false := ⟨Try.f42, Try.func42, by kernel_rfl, by kernel_rfl⟩
/-- What Items answers, of any tree and sets. -/
theorem items_ok (d p : Nat → Int) (tell ask reply : Int) : CallOK Try.prog 42 [.d (treeD d p), .d (.s (.int .i64 (tell))), .d (.s (.int .i64 (ask))), .d (.s (.int .i64 (reply)))] (.sl .ro shI (itemsTo d p tell ask reply 16)) := by
  refine ⟨itemsFn, fun W vs hra => ?_⟩
  have hl := (RA_at hra).1
  refine calls_of_wp Try.func42 rfl ?_
  have r0 := enter_rel hra 48
  have hn0 : ({ tmps := vs.toArray ++ Array.replicate (48 - vs.toArray.size) undef, defers := [] } : Act).tmps.size = 48 := by simp at hl ⊢; omega
  refine wp_seq ?_
  refine pieceR (b := ([1, 2, 3, 4], [4])) (s' := ⟨tab .junk [(1, .d (.s (.int .i64 (tell)))), (2, .d (.s (.int .i64 (ask)))), (3, .d (.s (.int .i64 (reply)))), (4, .ptr 4 (shT) [] (shT))], tab none [(4, some (.box (treeD d p)))]⟩) (fn := 42) (lf := loopFuel) env_ok hcall9 (by kernel_rfl) ?e1 r0 hn0 (fun a w φ r hn => ?_)
  case e1 => simp (decide := true) only [Try.f42, rid, kl42_3, dp42_6, ↓sBp, sBq, List.all_cons, List.all_nil, List.map_cons, List.map_nil, D.shape, Sh.sub, Sh.size, List.getElem?_cons_zero, List.getElem?_cons_succ, Option.bind_some, Option.bind_none, Option.getD_some, Option.getD_none, V.keysIn, V.kill, V.has, decide_eq_true_eq, beq_iff_eq, bne_iff_ne, ne_eq, Bool.not_eq_true', Bool.and_true, Bool.and_self, Bool.true_and, if_true, if_false, reduceIte, Bool.false_eq_true, decide_true, decide_false, beq_self_eq_true, Bool.not_true, Bool.not_false, true_and, and_true, and_self, List.append_assoc, List.nil_append, List.cons_append, Int.toNat_natCast, ck, Int.cast_ofNat_Int, Int.reduceToNat, bne_self_eq_false, Bool.or_false, Bool.false_or, Bool.false_and, Bool.and_false, Bool.or_true, Bool.true_or]
  refine wp_seq ?_
  refine pieceR (b := ([1, 2, 3, 4, 9], [4, 9])) (s' := ⟨tab .junk [(1, .d (.s (.int .i64 (tell)))), (2, .d (.s (.int .i64 (ask)))), (3, .d (.s (.int .i64 (reply)))), (4, .ptr 4 (shT) [] (shT)), (9, .ptr 9 (.cell .other) [] (.cell .other))], tab none [(4, some (.box (treeD d p))), (9, some (.box (.s (.slice none 0 0))))]⟩) (fn := 42) (lf := loopFuel) env_ok hcall9 (by kernel_rfl) ?e2 r hn (fun a w φ r hn => ?_)
  case e2 => simp (decide := true) only [Try.f42, rid, kl42_3, dp42_6, ↓sBp, sBq, List.all_cons, List.all_nil, List.map_cons, List.map_nil, D.shape, Sh.sub, Sh.size, List.getElem?_cons_zero, List.getElem?_cons_succ, Option.bind_some, Option.bind_none, Option.getD_some, Option.getD_none, V.keysIn, V.kill, V.has, decide_eq_true_eq, beq_iff_eq, bne_iff_ne, ne_eq, Bool.not_eq_true', Bool.and_true, Bool.and_self, Bool.true_and, if_true, if_false, reduceIte, Bool.false_eq_true, decide_true, decide_false, beq_self_eq_true, Bool.not_true, Bool.not_false, true_and, and_true, and_self, List.append_assoc, List.nil_append, List.cons_append, Int.toNat_natCast, ck, Int.cast_ofNat_Int, Int.reduceToNat, bne_self_eq_false, Bool.or_false, Bool.false_or, Bool.false_and, Bool.and_false, Bool.or_true, Bool.true_or]
  refine wp_seq ?_
  refine wp_seq ?_
  refine pieceR (b := ([1, 2, 3, 9, 15, 16], [9])) (s' := ⟨tab .junk [(1, .d (.s (.int .i64 (tell)))), (2, .d (.s (.int .i64 (ask)))), (3, .d (.s (.int .i64 (reply)))), (9, .ptr 9 (.cell .other) [] (.cell .other)), (15, .d (treeD d p)), (16, .d (.s (.int .i64 (0))))], tab none [(9, some (.box (.s (.slice none 0 0))))]⟩) (fn := 42) (lf := loopFuel) env_ok hcall9 (by kernel_rfl) ?e3 r hn (fun a w φ r hn => ?_)
  case e3 => simp (decide := true) only [Try.f42, rid, kl42_3, dp42_6, ↓sBp, sBq, List.all_cons, List.all_nil, List.map_cons, List.map_nil, D.shape, Sh.sub, Sh.size, List.getElem?_cons_zero, List.getElem?_cons_succ, Option.bind_some, Option.bind_none, Option.getD_some, Option.getD_none, V.keysIn, V.kill, V.has, decide_eq_true_eq, beq_iff_eq, bne_iff_ne, ne_eq, Bool.not_eq_true', Bool.and_true, Bool.and_self, Bool.true_and, if_true, if_false, reduceIte, Bool.false_eq_true, decide_true, decide_false, beq_self_eq_true, Bool.not_true, Bool.not_false, true_and, and_true, and_self, List.append_assoc, List.nil_append, List.cons_append, Int.toNat_natCast, ck, Int.cast_ofNat_Int, Int.reduceToNat, bne_self_eq_false, Bool.or_false, Bool.false_or, Bool.false_and, Bool.and_false, Bool.or_true, Bool.true_or]
  obtain ⟨x, g, m9, _, _, f9, e9⟩ := r.tm 9
  obtain ⟨_, g', T, f9', h9⟩ := r.box 9 _ rfl
  rw [f9] at f9'
  cases f9'
  have e9 : a.tmps.getD 9 undef = ptrV g := e9
  have hlo := r.lo 9 g f9
  have hB := r.base
  have start : HR W.heap.size W 48 g shI (itemsTo d p tell ask reply 0) (I0 d p tell ask reply g 0) a w := by
    refine ⟨⟨fun _ => none, .slice none 0 0, ⟨r.dfr, fun i => ?_, Below.refl _ _, hB, (fun k x h => by cases h), (fun k k' g h => by cases h), (fun k g h => by cases h), Fr.refl _ _⟩, ⟨hlo.1, ⟨T, h9⟩, ⟨(fun x hx => by cases hx), 0, World.ownsRow_nil w _ 0 _⟩, fun e => by cases e⟩, (fun k e => by cases e), fun k g' e => by cases e⟩, hn, r.bel⟩
    by_cases hi : i = 9
    · subst hi; exact ⟨rfl, e9⟩
    · have ti := r.tm i
      simp only [tab] at ti ⊢
      by_cases h1 : i = 1
      · subst h1; exact ti
      by_cases h2 : i = 2
      · subst h2; exact ti
      by_cases h3 : i = 3
      · subst h3; exact ti
      by_cases h15 : i = 15
      · subst h15; exact ti
      by_cases h16 : i = 16
      · subst h16; exact ti
      simp only [h1, h2, h3, hi, h15, h16, if_false]
      trivial
  refine wp_block (wp_loop_rounds 17 (rounds_items (d := d) (p := p) (tell := tell) (ask := ask) (reply := reply) (g := g) (B := W.heap.size) (W := W) (fun a w h => ?_) 16 0 rfl a w start))
  -- behind the loop: the variable is loaded
  obtain ⟨⟨φ', u, r', hh, c1, c2⟩, hn', hb'⟩ := h
  have t9 := r'.tm 9
  obtain ⟨_, t9⟩ := t9
  obtain ⟨T', hT'⟩ := hh.cell
  obtain ⟨hg, e0, ho⟩ := hh.row
  have hu1 : u.oneCell' = true ∧ ck u = .other := by
    rcases ho.2 with ⟨rfl, _⟩ | ⟨g1, cap, cur, rfl, _⟩ <;> exact ⟨rfl, rfl⟩
  have tl : Lies Try.prog 64 (.cell .other) := (env_ok.ty 64 _ rfl).lies
  show (Code.seq _ _).wp _ _ a w
  refine wp_seq (wp_region ?_)
  show wpOps _ _ _ [0, 1] a w
  refine wpOps_cons rfl rfl ?_
  refine Yields.value (w' := w) (u := u) (R := fun x y => x = u ∧ y = w) ?_ ⟨rfl, rfl⟩ _ _ (fun x y hxy => ?_)
  · have e1 : a.eval (.tmp 9) = ptrV g := t9
    have e2 := run_load (P := Try.prog) (w := w) tl (x := .s u) hu1.1 (show (D.s u).shape = .cell .other by simp [D.shape, hu1.2]) (g := g) (o := 0) (cells_at hT' fun j v hj => by simpa [D.flat] using hj)
    show ((do let v ← Instr.loadAt 64 (a.eval (.tmp 9)); pure (.value v) : Sem Next)).run Try.prog w = _
    rw [e1]
    simp only [Instr.loadAt, Instr.sureAddr, Sem.run_bind, Sem.run_pure, Result.andThen_ok, e2]
    rfl
  obtain ⟨rfl, rfl⟩ := hxy
  have z47 : ∀ z, z < 48 → z < a.tmps.size := fun z hz => by omega
  refine wpOps_cons rfl rfl ?_
  refine Yields.value (w' := y) (u := x) (R := fun x' y' => x' = x ∧ y' = y) ?_ ⟨rfl, rfl⟩ _ _ (fun x' y' hxy => ?_)
  · have e1 : (a.put (some 47) x).eval (.tmp 47) = x := by
      show (a.put (some 47) x).tmps.getD 47 undef = x
      rw [put_get a 47 x (z47 47 (by omega)), if_pos rfl]
    show ((pure (.value ((a.put (some 47) x).eval (.tmp 47))) : Sem Next)).run Try.prog y = _
    rw [e1]; rfl
  obtain ⟨rfl, rfl⟩ := hxy
  refine wp_ret ?_
  refine ⟨?_, x', ?_, x', rfl, hb', hh.row⟩
  · rw [put_dfr, put_dfr]; exact r'.dfr
  · have e8 : (((a.put (some 47) x').put (some 8) x').tmps.getD 8 undef) = x' := by
      rw [put_get _ 8 x' (by rw [put_size]; exact z47 8 (by omega)), if_pos rfl]
    show (results Try.f42 ((a.put (some 47) x').put (some 8) x').tmps).run Try.prog y' = .ok x' y'
    unfold results
    rw [show Try.f42.results = #[.tmp 8] from rfl]
    simp only [List.mapM_toArray, Array.mapM_eq_mapM_toList]
    simp only [List.mapM_cons, List.mapM_nil, Sem.run_bind, Sem.run_pure, Result.andThen_ok, Sem.run_map]
    simpa using e8
end Go.Proofs.Ytfbaikkadndckaa.Ev
