/- All that is answered from outside, together; views, who is waited for, whether two are in sync. -/
import Derived.Test.YtjceimcepogkaaaGreatDoorKq
import Derived.Test.YtjceimcepogkaaaGreatDoorKj
import Derived.Test.YtjceimcepogkaaaGreatDoorG3
namespace Go.Proofs.YtjceimcepogkaaaGreatDoor.Ev
open Go
attribute [local congr] ob_congr sq_congr cd_congr ite_congr1 iter_congr it1_congr jumps_congr
set_option maxRecDepth 100000
set_option linter.unusedSimpArgs false
set_option linter.unusedVariables false
noncomputable def ctRes : List V → Option V
  | [.d x] =>
    haveI := Classical.propDecidable (∃ q : Int × (Nat → Int), x = costsD q.1 q.2 ∧ UU q.2)
    if h : ∃ q : Int × (Nat → Int), x = costsD q.1 q.2 ∧ UU q.2 then some (.d (.s (.string (ctxt (Classical.choose h).1 (Classical.choose h).2)))) else none
  | _ => none
theorem costsD_inj {up up' : Int} {c c' : Nat → Int} (h : costsD up c = costsD up' c') : up = up' ∧ c = c' := by
  injection h with h1 h2
  injection h2 with h3 h4
  refine ⟨?_, ?_⟩
  · injection h1 with h1
    injection h1
  · injection h3 with _ _ h3
    funext i
    have := congrFun h3 i
    injection this with this
    injection this
theorem ctRes_eq (up : Int) (c : Nat → Int) (hc : UU c) : ctRes [.d (costsD up c)] = some (.d (.s (.string (ctxt up c)))) := by
  have h : ∃ q : Int × (Nat → Int), costsD up c = costsD q.1 q.2 ∧ UU q.2 := ⟨(up, c), rfl, hc⟩
  have e : ctRes [.d (costsD up c)] = some (.d (.s (.string (ctxt (Classical.choose h).1 (Classical.choose h).2)))) := dif_pos h
  rw [e]
  obtain ⟨e1, _⟩ := Classical.choose_spec h
  obtain ⟨q1, q2⟩ := costsD_inj e1
  rw [← q1, ← q2]
noncomputable def xl (orc : Value → Option (List Itm)) (f : Nat) (l : List V) : Option V :=
  match f == 12 with
  | true => if l.length = 3 then rheardX xt 20 (l.map (toSl orc)) else none
  | false =>
    match f == 54 with
    | true => ctRes l
    | false =>
      match f == 99 with
      | true => fuRes l
      | false => xo orc f l
/-- What holds of the worlds. -/
def JL (orc : Value → Option (List Itm)) (B : Nat) (w : World) : Prop := JW orc B w ∧ JP w
theorem JL_keep {orc : Value → Option (List Itm)} {B0 : Nat} (h0 : 1 ≤ B0) : ∀ w w' B, B0 ≤ B → Below B w w' → JL orc B0 w → JL orc B0 w' :=
  fun w w' B hB hb h => ⟨JW_below w w' B hB hb h.1, JP_keep w w' B (by omega) hb h.2⟩
theorem xl_ok {orc : Value → Option (List Itm)} {B0 : Nat} : ∀ f l r, xl orc f l = some r → ∀ w, JL orc B0 w → B0 ≤ w.heap.size → CallAt Tryz.prog w f l r := by
  intro f l r h w hJ hB
  unfold xl at h
  cases h1 : f == 12 with
  | true =>
    rw [h1] at h
    obtain rfl : f = 12 := beq_iff_eq.1 h1
    simp only at h
    split at h
    · rename_i hl
      unfold rheardX at h
      rw [show Tryz.f12.body = some _ from rfl, ob_some] at h
      have hb := body_ok (P := Tryz.prog) (E := env) env_ok (f := 12) Tryz.func12 rfl (by kernel_rfl) (by kernel_rfl) (l := l.map (toSl orc)) (by rw [List.length_map, hl]; decide) (evF_sound env_ok fns_ok (ext := xt) xt_ok 20) (noMut' rfl) h
      exact ⟨(hb.at w).fn, fun vs hra => (hb.at w).run vs (RA_toSl hJ.1 hB hra)⟩
    · cases h
  | false =>
    rw [h1] at h
    simp only at h
    cases h2 : f == 54 with
    | true =>
      rw [h2] at h
      obtain rfl : f = 54 := beq_iff_eq.1 h2
      simp only at h
      unfold ctRes at h
      split at h
      · split at h
        · rename_i x hx
          cases h
          obtain ⟨e1, e2⟩ := Classical.choose_spec hx
          generalize Classical.choose hx = q at e1 e2 ⊢
          subst e1
          exact ctext_at q.1 q.2 e2 w hJ.2
        · cases h
      · cases h
    | false =>
      rw [h2] at h
      simp only at h
      cases h3 : f == 99 with
      | true =>
        rw [h3] at h
        obtain rfl : f = 99 := beq_iff_eq.1 h3
        exact fu_at l r h w hJ.2
      | false =>
        rw [h3] at h
        exact xo_ok f l r h w hJ.1 hB
section
variable {orc : Value → Option (List Itm)}
theorem xl_xo : ∀ g l r, xo orc g l = some r → xl orc g l = some r := by
  intro g l r h
  unfold xl
  cases h1 : g == 12 with
  | true =>
    obtain rfl : g = 12 := beq_iff_eq.1 h1
    have e : xo orc 12 l = none := rfl
    rw [e] at h; cases h
  | false =>
    cases h2 : g == 54 with
    | true =>
      obtain rfl : g = 54 := beq_iff_eq.1 h2
      have e : xo orc 54 l = none := rfl
      rw [e] at h; cases h
    | false =>
      cases h3 : g == 99 with
      | true =>
        obtain rfl : g = 99 := beq_iff_eq.1 h3
        have e : xo orc 99 l = none := rfl
        rw [e] at h; cases h
      | false => exact h
theorem xl_new : ∀ g l, xo orc g l = none → xl orc g l ≠ none → env.ok g = false := by
  intro g l h h2
  unfold xl at h2
  cases h1 : g == 12 with
  | true =>
    obtain rfl : g = 12 := beq_iff_eq.1 h1
    rfl
  | false =>
    rw [h1] at h2
    simp only at h2
    cases h4 : g == 54 with
    | true =>
      obtain rfl : g = 54 := beq_iff_eq.1 h4
      rfl
    | false =>
      rw [h4] at h2
      simp only at h2
      cases h3 : g == 99 with
      | true =>
        obtain rfl : g = 99 := beq_iff_eq.1 h3
        rfl
      | false => rw [h3] at h2; exact absurd h h2
theorem up_x {n f : Nat} {l : List V} {r : V} (h : evF Tryz.prog env (xo orc) n f l = some r) : evF Tryz.prog env (xl orc) n f l = some r := evF_mono xl_xo xl_new n f l r h
theorem up_l {n f : Nat} {l : List V} {r : V} (h : evF Tryz.prog env xt n f l = some r) : evF Tryz.prog env (xl orc) n f l = some r := up_x (up_o h)
theorem xl_xu : ∀ g l r, xu g l = some r → xl orc g l = some r := by
  intro g l r h
  unfold xu at h
  cases h3 : g == 99 with
  | true =>
    rw [h3] at h
    obtain rfl : g = 99 := beq_iff_eq.1 h3
    exact h
  | false =>
    rw [h3] at h
    exact xl_xo g l r (xo_xt g l r h)
theorem xl_newu : ∀ g l, xu g l = none → xl orc g l ≠ none → env.ok g = false := by
  intro g l h h2
  unfold xu at h
  cases h3 : g == 99 with
  | true =>
    obtain rfl : g = 99 := beq_iff_eq.1 h3
    rfl
  | false =>
    rw [h3] at h
    cases h4 : xo orc g l with
    | none => exact xl_new g l h4 h2
    | some r => exact xo_new g l h (by rw [h4]; simp)
theorem up_v {n f : Nat} {l : List V} {r : V} (h : evF Tryz.prog env xu n f l = some r) : evF Tryz.prog env (xl orc) n f l = some r := evF_mono xl_xu xl_newu n f l r h
theorem ctext_ev (K : Nat) (up : Int) (c : Nat → Int) (hc : UU c) : evF Tryz.prog env (xl orc) (K+1) 54 [.d (costsD up c)] = some (.d (.s (.string (ctxt up c)))) := by
  have e : xl orc 54 [.d (costsD up c)] = some (.d (.s (.string (ctxt up c)))) := ctRes_eq up c hc
  simp only [evF, e]
/- Views. -/
def barB : ByteArray := ⟨#[124, 32]⟩
def viewB (l : LP) : ByteArray := (((((ttxt (cut l.r.d) (cut l.r.p) ++ barB) ++ ctxt l.k.up l.k.c) ++ barB) ++ strTo l.wait (listTo l.act 16) (listTo l.act 16).length) ++ barB) ++ textF (dueF l)
theorem UU_cut {d : Nat → Int} (h : UU d) : UU (cut d) := ⟨fun i => by
  unfold cut fillTo
  split
  · exact h.at' i
  · show (0 : Int) ≤ 0 ∧ (0 : Int) < 4294967296
    omega⟩
theorem view_step (l : LP) (hd : UU l.r.d) (hc : UU l.k.c) : ∀ A B C D : ByteArray, A = ttxt (cut l.r.d) (cut l.r.p) → B = ctxt l.k.up l.k.c → C = strTo l.wait (listTo l.act 16) (listTo l.act 16).length → D = textF (dueF l) →
    (∀ t, evBin env .add t (.d (.s (.string A))) (.d (.s (.string ⟨#[124, 32]⟩))) = some (.d (.s (.string (A ++ barB))))) ∧
    (∀ t, evBin env .add t (.d (.s (.string (A ++ barB)))) (.d (.s (.string B))) = some (.d (.s (.string ((A ++ barB) ++ B))))) ∧
    (∀ t, evBin env .add t (.d (.s (.string ((A ++ barB) ++ B)))) (.d (.s (.string ⟨#[124, 32]⟩))) = some (.d (.s (.string (((A ++ barB) ++ B) ++ barB))))) ∧
    (∀ t, evBin env .add t (.d (.s (.string (((A ++ barB) ++ B) ++ barB)))) (.d (.s (.string C))) = some (.d (.s (.string ((((A ++ barB) ++ B) ++ barB) ++ C))))) ∧
    (∀ t, evBin env .add t (.d (.s (.string ((((A ++ barB) ++ B) ++ barB) ++ C)))) (.d (.s (.string ⟨#[124, 32]⟩))) = some (.d (.s (.string (((((A ++ barB) ++ B) ++ barB) ++ C) ++ barB))))) ∧
    (∀ t, evBin env .add t (.d (.s (.string (((((A ++ barB) ++ B) ++ barB) ++ C) ++ barB)))) (.d (.s (.string D))) = some (.d (.s (.string ((((((A ++ barB) ++ B) ++ barB) ++ C) ++ barB) ++ D))))) := by
  rintro A B C D rfl rfl rfl rfl
  have h1 := ttTo_size (p := cut l.r.p) (UU_cut hd) (listTo (reached (cut l.r.d)) 16) (listTo (reached (cut l.r.d)) 16).length
  have h2 := ctTo_size hc (listTo l.k.up 16) (listTo l.k.up 16).length
  have h3 := strTo_size l.wait (listTo l.act 16) (listTo l.act 16).length
  have h4 := textF_size (dueF l)
  have l1 := listTo_len (reached (cut l.r.d)) 16
  have l2 := listTo_len l.k.up 16
  have l3 := listTo_len l.act 16
  have eb : barB.size = 2 := rfl
  have eb' : (⟨#[124, 32]⟩ : ByteArray).size = 2 := rfl
  have e1 : (ttxt (cut l.r.d) (cut l.r.p)).size ≤ 688 := by unfold ttxt; omega
  have e2 : (ctxt l.k.up l.k.c).size ≤ 432 := by unfold ctxt; omega
  refine ⟨fun t => evBin_addS env t _ _ (by omega), fun t => evBin_addS env t _ _ (by simp only [ByteArray.size_append]; omega), fun t => evBin_addS env t _ _ (by simp only [ByteArray.size_append]; omega), fun t => evBin_addS env t _ _ (by simp only [ByteArray.size_append]; omega), fun t => evBin_addS env t _ _ (by simp only [ByteArray.size_append]; omega), fun t => evBin_addS env t _ _ (by simp only [ByteArray.size_append]; omega)⟩
theorem inI_due (l : LP) : inI (dueF l) := inI_bits _ _ _
theorem view_ev (K : Nat) (l : LP) (hA : AllI l) (hd : UU l.r.d) (hc : UU l.k.c) : evF Tryz.prog env (xl orc) (K+13) 14 [.d (lpD l)] = some (.d (.s (.string (viewB l)))) := by
  rw [evF_eq Tryz.func14 (show Tryz.f14.body = some _ from rfl) rfl rfl rfl (by show 1 ≤ 27; decide)]
  have e1 : evF Tryz.prog env (xl orc) (K+12) 53 [.d (rowsD l.r.d l.r.p l.r.n)] = some (.d (treeD (cut l.r.d) (cut l.r.p))) := up_l (tree_ev (K+11) _ _ _)
  have e2 : evF Tryz.prog env (xl orc) (K+12) 52 [.d (treeD (cut l.r.d) (cut l.r.p))] = some (.d (.s (.string (ttxt (cut l.r.d) (cut l.r.p))))) := up_v (ttext_ev (K+6) _ _ (UU_cut hd))
  have e3 : evF Tryz.prog env (xl orc) (K+12) 54 [.d (costsD l.k.up l.k.c)] = some (.d (.s (.string (ctxt l.k.up l.k.c)))) := ctext_ev (K+11) _ _ hc
  have e4 : evF Tryz.prog env (xl orc) (K+12) 55 [.d (phD l.act l.wait)] = some (.d (.s (.string (strTo l.wait (listTo l.act 16) (listTo l.act 16).length)))) := up_l (ptext_ev (K+6) _ _ hA.wait)
  have e5 : evF Tryz.prog env (xl orc) (K+12) 57 [.d (lpD l)] = some (.d (.s (.int .i64 (dueF l)))) := up_l (due_ev (K+8) l)
  have e6 : evF Tryz.prog env (xl orc) (K+12) 56 [.d (.s (.int .i64 (dueF l)))] = some (.d (.s (.string (textF (dueF l))))) := up_l (text_ev (K+8) (inI_due l))
  have ev : viewB l = (((((ttxt (cut l.r.d) (cut l.r.p) ++ barB) ++ ctxt l.k.up l.k.c) ++ barB) ++ strTo l.wait (listTo l.act 16) (listTo l.act 16).length) ++ barB) ++ textF (dueF l) := rfl
  obtain ⟨a1, a2, a3, a4, a5, a6⟩ := view_step l hd hc _ _ _ _ rfl rfl rfl rfl
  rw [ev]
  generalize ttxt (cut l.r.d) (cut l.r.p) = TA at e2 a1 a2 a3 a4 a5 a6
  generalize ctxt l.k.up l.k.c = TB at e3 a2 a3 a4 a5 a6
  generalize strTo l.wait (listTo l.act 16) (listTo l.act 16).length = TC at e4 a4 a5 a6
  generalize textF (dueF l) = TD at e6 a6
  simp (decide := true) only [e1, e2, e3, e4, e5, e6, a1, a2, a3, a4, a5, a6, Tryz.f14, rid, dp14_1, dp14_2, ↓sBp, sBq, List.all_cons, List.all_nil, List.map_cons, List.map_nil, D.shape, Sh.sub, Sh.size, List.getElem?_cons_zero, List.getElem?_cons_succ, Option.bind_some, Option.bind_none, Option.getD_some, Option.getD_none, V.keysIn, V.kill, V.has, decide_eq_true_eq, beq_iff_eq, bne_iff_ne, ne_eq, Bool.not_eq_true', Bool.and_true, Bool.and_self, Bool.true_and, if_true, if_false, reduceIte, Bool.false_eq_true, decide_true, decide_false, beq_self_eq_true, Bool.not_true, Bool.not_false, true_and, and_true, and_self, List.append_assoc, List.nil_append, List.cons_append, Int.toNat_natCast, ck, Int.cast_ofNat_Int, Int.reduceToNat, bne_self_eq_false, Bool.or_false, Bool.false_or, Bool.false_and, Bool.and_false, Bool.or_true, Bool.true_or]
theorem rview_ev (K : Nat) (l : LP) (hA : AllI l) (hd : UU l.r.d) (hc : UU l.k.c) : evF Tryz.prog env (xl orc) (K+13) 15 [.d (lpD l)] = some (.d (.s (.string (viewB l)))) := by
  rw [evF_eq Tryz.func15 (show Tryz.f15.body = some _ from rfl) rfl rfl rfl (by show 1 ≤ 32; decide)]
  have e1 : evF Tryz.prog env (xl orc) (K+12) 40 [.d (rowsD l.r.d l.r.p l.r.n)] = some (.d (treeD (cut l.r.d) (cut l.r.p))) := up_l (rtree_ev (K+11) _ _ _)
  have e2 : evF Tryz.prog env (xl orc) (K+12) 58 [.d (treeD (cut l.r.d) (cut l.r.p))] = some (.d (.s (.string (ttxt (cut l.r.d) (cut l.r.p))))) := up_v (rttext_ev K _ _ (UU_cut hd))
  have e3 : evF Tryz.prog env (xl orc) (K+12) 59 [.d (costsD l.k.up l.k.c)] = some (.d (.s (.string (ctxt l.k.up l.k.c)))) := up_v (rctext_ev K _ _ hc)
  have e4 : evF Tryz.prog env (xl orc) (K+12) 60 [.d (phD l.act l.wait)] = some (.d (.s (.string (strTo l.wait (listTo l.act 16) (listTo l.act 16).length)))) := up_l (rptext_ev (K+6) _ _ hA.wait)
  have e5 : ∀ f, evF Tryz.prog env (xl orc) (K+12) 62 [.d (arr16 f)] = some (.d (.s (.int .i64 (anyF f)))) := fun f => up_l (ranyF_ev (K+9) f)
  have e6 : evF Tryz.prog env (xl orc) (K+12) 61 [.d (.s (.int .i64 (dueF l)))] = some (.d (.s (.string (textF (dueF l))))) := up_l (rtext_ev (K+8) _)
  have ed : dueF l = bits .or .i64 (bits .or .i64 (anyF l.tell) (anyF l.ask)) (anyF l.reply) := rfl
  have ev : viewB l = (((((ttxt (cut l.r.d) (cut l.r.p) ++ barB) ++ ctxt l.k.up l.k.c) ++ barB) ++ strTo l.wait (listTo l.act 16) (listTo l.act 16).length) ++ barB) ++ textF (dueF l) := rfl
  obtain ⟨a1, a2, a3, a4, a5, a6⟩ := view_step l hd hc _ _ _ _ rfl rfl rfl rfl
  rw [ev]
  generalize ttxt (cut l.r.d) (cut l.r.p) = TA at e2 a1 a2 a3 a4 a5 a6
  generalize ctxt l.k.up l.k.c = TB at e3 a2 a3 a4 a5 a6
  generalize strTo l.wait (listTo l.act 16) (listTo l.act 16).length = TC at e4 a4 a5 a6
  generalize textF (dueF l) = TD at e6 a6
  rw [ed] at e6
  simp (decide := true) only [e1, e2, e3, e4, e5, e6, a1, a2, a3, a4, a5, a6, Tryz.f15, rid, dp15_1, ↓sBp, sBq, List.all_cons, List.all_nil, List.map_cons, List.map_nil, D.shape, Sh.sub, Sh.size, List.getElem?_cons_zero, List.getElem?_cons_succ, Option.bind_some, Option.bind_none, Option.getD_some, Option.getD_none, V.keysIn, V.kill, V.has, decide_eq_true_eq, beq_iff_eq, bne_iff_ne, ne_eq, Bool.not_eq_true', Bool.and_true, Bool.and_self, Bool.true_and, if_true, if_false, reduceIte, Bool.false_eq_true, decide_true, decide_false, beq_self_eq_true, Bool.not_true, Bool.not_false, true_and, and_true, and_self, List.append_assoc, List.nil_append, List.cons_append, Int.toNat_natCast, ck, Int.cast_ofNat_Int, Int.reduceToNat, bne_self_eq_false, Bool.or_false, Bool.false_or, Bool.false_and, Bool.and_false, Bool.or_true, Bool.true_or]
/- Who is waited for. -/
def stkTo (a : Int) (w : Nat → Int) (i : Nat) : Int := upto (fun q s => bits .or .i64 s (bits .and .i64 (w ((listTo a 16).getD q 0).toNat) 65535)) 0 i
def stkF (l : LP) : Int := stkTo l.act l.wait (listTo l.act 16).length
theorem stkTo_succ (a : Int) (w : Nat → Int) (i : Nat) {n : Int} (h : (listTo a 16)[i]? = some n) : stkTo a w (i + 1) = bits .or .i64 (stkTo a w i) (bits .and .i64 (w n.toNat) 65535) := by
  have e : (listTo a 16).getD i 0 = n := by simp [List.getD, h]
  subst e; rfl
theorem listL_ev (K : Nat) (s : Int) : evF Tryz.prog env (xl orc) (K+3) 63 [.d (.s (.int .i64 (s)))] = some (.sl .ro cI (ints (listTo s 16))) := up_l (list_ev K s)
theorem rlistL_ev (K : Nat) (s : Int) : evF Tryz.prog env (xl orc) (K+3) 47 [.d (.s (.int .i64 (s)))] = some (.sl .ro cI (ints (listTo s 16))) := up_l (rlist_ev K s)
theorem stuck_ev (K : Nat) (l : LP) : evF Tryz.prog env (xl orc) (K+4) 16 [.d (lpD l)] = some (.d (.s (.int .i64 (stkF l)))) := by
  rw [evF_eq Tryz.func16 (show Tryz.f16.body = some _ from rfl) rfl rfl rfl (by show 1 ≤ 25; decide)]
  have e0 := listL_ev (orc := orc) K l.act
  have hlen := listTo_len l.act 16
  have hle := ints_length (listTo l.act 16)
  simp (decide := true) only [e0, Tryz.f16, rid, kl16_3, ↓sBp, sBq, List.all_cons, List.all_nil, List.map_cons, List.map_nil, D.shape, Sh.sub, Sh.size, List.getElem?_cons_zero, List.getElem?_cons_succ, Option.bind_some, Option.bind_none, Option.getD_some, Option.getD_none, V.keysIn, V.kill, V.has, decide_eq_true_eq, beq_iff_eq, bne_iff_ne, ne_eq, Bool.not_eq_true', Bool.and_true, Bool.and_self, Bool.true_and, if_true, if_false, reduceIte, Bool.false_eq_true, decide_true, decide_false, beq_self_eq_true, Bool.not_true, Bool.not_false, true_and, and_true, and_self, List.append_assoc, List.nil_append, List.cons_append, Int.toNat_natCast, ck, Int.cast_ofNat_Int, Int.reduceToNat, bne_self_eq_false, Bool.or_false, Bool.false_or, Bool.false_and, Bool.and_false, Bool.or_true, Bool.true_or]
  rw [iter_run (S := fun i => ⟨tab .junk [(1, .ptr 1 (shL) [] (shL)), (3, .d (.s (.int .i64 (stkTo l.act l.wait i)))), (9, .sl (.tg 9) cI (ints (listTo l.act 16))), (10, .d (.s (.int .i64 ((listTo l.act 16).length)))), (11, .d (.s (.int .i64 (i))))], tab none [(1, some (.box (lpD l))), (9, some .row)]⟩) (n := (listTo l.act 16).length) (h0 := ?h0) (hn := ?hn) (step := ?step)]
  case h0 => rw [hle]; rfl
  case hn => exact lt_loopFuel (by omega)
  case step =>
    intro i hi
    have hi1 : (i : Int) < ((listTo l.act 16).length : Int) := by omega
    have hi0 : (0 : Int) ≤ i := by omega
    have hiw := wrap_succ i (by omega)
    obtain ⟨m, hm, hh, he⟩ := listTo_get l.act hi
    have hg := ints_get he
    have hm1 : (m : Int) < 16 := by omega
    have hm0 : (0 : Int) ≤ m := by omega
    have es := stkTo_succ l.act l.wait i he
    rw [Int.toNat_natCast] at es
    simp (decide := true) only [hi1, hi0, hiw, hg, hm1, hm0, es, Tryz.f16, rid, kl16_3, ↓sBp, sBq, List.all_cons, List.all_nil, List.map_cons, List.map_nil, D.shape, Sh.sub, Sh.size, List.getElem?_cons_zero, List.getElem?_cons_succ, Option.bind_some, Option.bind_none, Option.getD_some, Option.getD_none, V.keysIn, V.kill, V.has, decide_eq_true_eq, beq_iff_eq, bne_iff_ne, ne_eq, Bool.not_eq_true', Bool.and_true, Bool.and_self, Bool.true_and, if_true, if_false, reduceIte, Bool.false_eq_true, decide_true, decide_false, beq_self_eq_true, Bool.not_true, Bool.not_false, true_and, and_true, and_self, List.append_assoc, List.nil_append, List.cons_append, Int.toNat_natCast, ck, Int.cast_ofNat_Int, Int.reduceToNat, bne_self_eq_false, Bool.or_false, Bool.false_or, Bool.false_and, Bool.and_false, Bool.or_true, Bool.true_or]
  simp (decide := true) only [Int.lt_irrefl, stkF, Tryz.f16, rid, kl16_3, ↓sBp, sBq, List.all_cons, List.all_nil, List.map_cons, List.map_nil, D.shape, Sh.sub, Sh.size, List.getElem?_cons_zero, List.getElem?_cons_succ, Option.bind_some, Option.bind_none, Option.getD_some, Option.getD_none, V.keysIn, V.kill, V.has, decide_eq_true_eq, beq_iff_eq, bne_iff_ne, ne_eq, Bool.not_eq_true', Bool.and_true, Bool.and_self, Bool.true_and, if_true, if_false, reduceIte, Bool.false_eq_true, decide_true, decide_false, beq_self_eq_true, Bool.not_true, Bool.not_false, true_and, and_true, and_self, List.append_assoc, List.nil_append, List.cons_append, Int.toNat_natCast, ck, Int.cast_ofNat_Int, Int.reduceToNat, bne_self_eq_false, Bool.or_false, Bool.false_or, Bool.false_and, Bool.and_false, Bool.or_true, Bool.true_or]
theorem rstuck_ev (K : Nat) (l : LP) : evF Tryz.prog env (xl orc) (K+4) 17 [.d (lpD l)] = some (.d (.s (.int .i64 (stkF l)))) := by
  rw [evF_eq Tryz.func17 (show Tryz.f17.body = some _ from rfl) rfl rfl rfl (by show 1 ≤ 25; decide)]
  have e0 := rlistL_ev (orc := orc) K l.act
  have hlen := listTo_len l.act 16
  have hle := ints_length (listTo l.act 16)
  simp (decide := true) only [e0, Tryz.f17, rid, kl17_3, ↓sBp, sBq, List.all_cons, List.all_nil, List.map_cons, List.map_nil, D.shape, Sh.sub, Sh.size, List.getElem?_cons_zero, List.getElem?_cons_succ, Option.bind_some, Option.bind_none, Option.getD_some, Option.getD_none, V.keysIn, V.kill, V.has, decide_eq_true_eq, beq_iff_eq, bne_iff_ne, ne_eq, Bool.not_eq_true', Bool.and_true, Bool.and_self, Bool.true_and, if_true, if_false, reduceIte, Bool.false_eq_true, decide_true, decide_false, beq_self_eq_true, Bool.not_true, Bool.not_false, true_and, and_true, and_self, List.append_assoc, List.nil_append, List.cons_append, Int.toNat_natCast, ck, Int.cast_ofNat_Int, Int.reduceToNat, bne_self_eq_false, Bool.or_false, Bool.false_or, Bool.false_and, Bool.and_false, Bool.or_true, Bool.true_or]
  rw [iter_run (S := fun i => ⟨tab .junk [(1, .ptr 1 (shL) [] (shL)), (3, .d (.s (.int .i64 (stkTo l.act l.wait i)))), (9, .sl (.tg 9) cI (ints (listTo l.act 16))), (10, .d (.s (.int .i64 ((listTo l.act 16).length)))), (11, .d (.s (.int .i64 (i))))], tab none [(1, some (.box (lpD l))), (9, some .row)]⟩) (n := (listTo l.act 16).length) (h0 := ?h0) (hn := ?hn) (step := ?step)]
  case h0 => rw [hle]; rfl
  case hn => exact lt_loopFuel (by omega)
  case step =>
    intro i hi
    have hi1 : (i : Int) < ((listTo l.act 16).length : Int) := by omega
    have hi0 : (0 : Int) ≤ i := by omega
    have hiw := wrap_succ i (by omega)
    obtain ⟨m, hm, hh, he⟩ := listTo_get l.act hi
    have hg := ints_get he
    have hm1 : (m : Int) < 16 := by omega
    have hm0 : (0 : Int) ≤ m := by omega
    have es := stkTo_succ l.act l.wait i he
    rw [Int.toNat_natCast] at es
    simp (decide := true) only [hi1, hi0, hiw, hg, hm1, hm0, es, Tryz.f17, rid, kl17_3, ↓sBp, sBq, List.all_cons, List.all_nil, List.map_cons, List.map_nil, D.shape, Sh.sub, Sh.size, List.getElem?_cons_zero, List.getElem?_cons_succ, Option.bind_some, Option.bind_none, Option.getD_some, Option.getD_none, V.keysIn, V.kill, V.has, decide_eq_true_eq, beq_iff_eq, bne_iff_ne, ne_eq, Bool.not_eq_true', Bool.and_true, Bool.and_self, Bool.true_and, if_true, if_false, reduceIte, Bool.false_eq_true, decide_true, decide_false, beq_self_eq_true, Bool.not_true, Bool.not_false, true_and, and_true, and_self, List.append_assoc, List.nil_append, List.cons_append, Int.toNat_natCast, ck, Int.cast_ofNat_Int, Int.reduceToNat, bne_self_eq_false, Bool.or_false, Bool.false_or, Bool.false_and, Bool.and_false, Bool.or_true, Bool.true_or]
  simp (decide := true) only [Int.lt_irrefl, stkF, Tryz.f17, rid, kl17_3, ↓sBp, sBq, List.all_cons, List.all_nil, List.map_cons, List.map_nil, D.shape, Sh.sub, Sh.size, List.getElem?_cons_zero, List.getElem?_cons_succ, Option.bind_some, Option.bind_none, Option.getD_some, Option.getD_none, V.keysIn, V.kill, V.has, decide_eq_true_eq, beq_iff_eq, bne_iff_ne, ne_eq, Bool.not_eq_true', Bool.and_true, Bool.and_self, Bool.true_and, if_true, if_false, reduceIte, Bool.false_eq_true, decide_true, decide_false, beq_self_eq_true, Bool.not_true, Bool.not_false, true_and, and_true, and_self, List.append_assoc, List.nil_append, List.cons_append, Int.toNat_natCast, ck, Int.cast_ofNat_Int, Int.reduceToNat, bne_self_eq_false, Bool.or_false, Bool.false_or, Bool.false_and, Bool.and_false, Bool.or_true, Bool.true_or]
/- Two in sync. -/
theorem self_beq (a : Int) : (a == a) = true := by simp
theorem sync_self (K : Nat) (l : LP) : evF Tryz.prog env (xl orc) (K+7) 18 [.d (lpD l), .d (lpD l)] = some (.d (.s (.bool (false)))) := by
  rw [evF_eq Tryz.func18 (show Tryz.f18.body = some _ from rfl) rfl rfl rfl (by show 2 ≤ 54; decide)]
  have er : evF Tryz.prog env (xl orc) (K+6) 64 [.d (.s (.int .i64 (l.k.self)))] = some (.d (.s (.bool (right l.k.self)))) := up_l (right_ev (K+5) _)
  rcases Bool.eq_false_or_eq_true (right l.k.self) with h | h
  · rw [h] at er
    simp (decide := true) only [er, self_beq, Tryz.f18, rid, dp18_1, dp18_6, ↓sBp, sBq, List.all_cons, List.all_nil, List.map_cons, List.map_nil, D.shape, Sh.sub, Sh.size, List.getElem?_cons_zero, List.getElem?_cons_succ, Option.bind_some, Option.bind_none, Option.getD_some, Option.getD_none, V.keysIn, V.kill, V.has, decide_eq_true_eq, beq_iff_eq, bne_iff_ne, ne_eq, Bool.not_eq_true', Bool.and_true, Bool.and_self, Bool.true_and, if_true, if_false, reduceIte, Bool.false_eq_true, decide_true, decide_false, beq_self_eq_true, Bool.not_true, Bool.not_false, true_and, and_true, and_self, List.append_assoc, List.nil_append, List.cons_append, Int.toNat_natCast, ck, Int.cast_ofNat_Int, Int.reduceToNat, bne_self_eq_false, Bool.or_false, Bool.false_or, Bool.false_and, Bool.and_false, Bool.or_true, Bool.true_or]
  · rw [h] at er
    simp (decide := true) only [er, Tryz.f18, rid, dp18_1, dp18_6, ↓sBp, sBq, List.all_cons, List.all_nil, List.map_cons, List.map_nil, D.shape, Sh.sub, Sh.size, List.getElem?_cons_zero, List.getElem?_cons_succ, Option.bind_some, Option.bind_none, Option.getD_some, Option.getD_none, V.keysIn, V.kill, V.has, decide_eq_true_eq, beq_iff_eq, bne_iff_ne, ne_eq, Bool.not_eq_true', Bool.and_true, Bool.and_self, Bool.true_and, if_true, if_false, reduceIte, Bool.false_eq_true, decide_true, decide_false, beq_self_eq_true, Bool.not_true, Bool.not_false, true_and, and_true, and_self, List.append_assoc, List.nil_append, List.cons_append, Int.toNat_natCast, ck, Int.cast_ofNat_Int, Int.reduceToNat, bne_self_eq_false, Bool.or_false, Bool.false_or, Bool.false_and, Bool.and_false, Bool.or_true, Bool.true_or]
theorem rsync_self (K : Nat) (l : LP) : evF Tryz.prog env (xl orc) (K+7) 19 [.d (lpD l), .d (lpD l)] = some (.d (.s (.bool (false)))) := by
  rw [evF_eq Tryz.func19 (show Tryz.f19.body = some _ from rfl) rfl rfl rfl (by show 2 ≤ 56; decide)]
  have er : evF Tryz.prog env (xl orc) (K+6) 65 [.d (.s (.int .i64 (l.k.self)))] = some (.d (.s (.bool (right l.k.self)))) := up_l (rright_ev (K+5) _)
  rcases Bool.eq_false_or_eq_true (right l.k.self) with h | h
  · rw [h] at er
    simp (decide := true) only [er, self_beq, Tryz.f19, rid, dp19_1, dp19_4, ↓sBp, sBq, List.all_cons, List.all_nil, List.map_cons, List.map_nil, D.shape, Sh.sub, Sh.size, List.getElem?_cons_zero, List.getElem?_cons_succ, Option.bind_some, Option.bind_none, Option.getD_some, Option.getD_none, V.keysIn, V.kill, V.has, decide_eq_true_eq, beq_iff_eq, bne_iff_ne, ne_eq, Bool.not_eq_true', Bool.and_true, Bool.and_self, Bool.true_and, if_true, if_false, reduceIte, Bool.false_eq_true, decide_true, decide_false, beq_self_eq_true, Bool.not_true, Bool.not_false, true_and, and_true, and_self, List.append_assoc, List.nil_append, List.cons_append, Int.toNat_natCast, ck, Int.cast_ofNat_Int, Int.reduceToNat, bne_self_eq_false, Bool.or_false, Bool.false_or, Bool.false_and, Bool.and_false, Bool.or_true, Bool.true_or]
  · rw [h] at er
    simp (decide := true) only [er, Tryz.f19, rid, dp19_1, dp19_4, ↓sBp, sBq, List.all_cons, List.all_nil, List.map_cons, List.map_nil, D.shape, Sh.sub, Sh.size, List.getElem?_cons_zero, List.getElem?_cons_succ, Option.bind_some, Option.bind_none, Option.getD_some, Option.getD_none, V.keysIn, V.kill, V.has, decide_eq_true_eq, beq_iff_eq, bne_iff_ne, ne_eq, Bool.not_eq_true', Bool.and_true, Bool.and_self, Bool.true_and, if_true, if_false, reduceIte, Bool.false_eq_true, decide_true, decide_false, beq_self_eq_true, Bool.not_true, Bool.not_false, true_and, and_true, and_self, List.append_assoc, List.nil_append, List.cons_append, Int.toNat_natCast, ck, Int.cast_ofNat_Int, Int.reduceToNat, bne_self_eq_false, Bool.or_false, Bool.false_or, Bool.false_and, Bool.and_false, Bool.or_true, Bool.true_or]
theorem sync_met (K : Nat) {c : Int} {x y : LP} (h : Met c x y) : evF Tryz.prog env (xl orc) (K+7) 18 [.d (lpD x), .d (lpD y)] = some (.d (.s (.bool (true)))) := by
  rw [evF_eq Tryz.func18 (show Tryz.f18.body = some _ from rfl) rfl rfl rfl (by show 2 ≤ 54; decide)]
  obtain ⟨sx, sy, dx, dy, ex, ey, _, _, _, ix, iy⟩ := h
  have r0 : evF Tryz.prog env (xl orc) (K+6) 64 [.d (.s (.int .i64 (0)))] = some (.d (.s (.bool (true)))) := up_l (right_ev (K+5) 0)
  have r1 : evF Tryz.prog env (xl orc) (K+6) 64 [.d (.s (.int .i64 (1)))] = some (.d (.s (.bool (true)))) := up_l (right_ev (K+5) 1)
  have p1 : evF Tryz.prog env (xl orc) (K+6) 28 [.d (lpD x), .d (.s (.int .i64 (1)))] = some (.d (.s (.bool (has (dueF x) 1)))) := up_l (pending_ev (K+1) x 1)
  have p2 : evF Tryz.prog env (xl orc) (K+6) 28 [.d (lpD y), .d (.s (.int .i64 (0)))] = some (.d (.s (.bool (has (dueF y) 0)))) := up_l (pending_ev (K+1) y 0)
  have t1 : evF Tryz.prog env (xl orc) (K+6) 53 [.d (rowsD y.r.d y.r.p y.r.n)] = some (.d (treeD (cut y.r.d) (cut y.r.p))) := up_l (tree_ev (K+5) _ _ _)
  have t2 : evF Tryz.prog env (xl orc) (K+6) 53 [.d (rowsD x.r.d x.r.p x.r.n)] = some (.d (treeD (cut x.r.d) (cut x.r.p))) := up_l (tree_ev (K+5) _ _ _)
  rw [dx] at p1
  rw [dy] at p2
  simp (decide := true) only [sx, sy, r0, r1, p1, p2, t1, t2, ex, ey, Tryz.f18, rid, dp18_1, dp18_6, ↓sBp, sBq, List.all_cons, List.all_nil, List.map_cons, List.map_nil, D.shape, Sh.sub, Sh.size, List.getElem?_cons_zero, List.getElem?_cons_succ, Option.bind_some, Option.bind_none, Option.getD_some, Option.getD_none, V.keysIn, V.kill, V.has, decide_eq_true_eq, beq_iff_eq, bne_iff_ne, ne_eq, Bool.not_eq_true', Bool.and_true, Bool.and_self, Bool.true_and, if_true, if_false, reduceIte, Bool.false_eq_true, decide_true, decide_false, beq_self_eq_true, Bool.not_true, Bool.not_false, true_and, and_true, and_self, List.append_assoc, List.nil_append, List.cons_append, Int.toNat_natCast, ck, Int.cast_ofNat_Int, Int.reduceToNat, bne_self_eq_false, Bool.or_false, Bool.false_or, Bool.false_and, Bool.and_false, Bool.or_true, Bool.true_or]
theorem rsync_met (K : Nat) {c : Int} {x y : LP} (h : Met c x y) : evF Tryz.prog env (xl orc) (K+7) 19 [.d (lpD x), .d (lpD y)] = some (.d (.s (.bool (true)))) := by
  rw [evF_eq Tryz.func19 (show Tryz.f19.body = some _ from rfl) rfl rfl rfl (by show 2 ≤ 56; decide)]
  obtain ⟨sx, sy, dx, dy, ex, ey, _, _, _, ix, iy⟩ := h
  have r0 : evF Tryz.prog env (xl orc) (K+6) 65 [.d (.s (.int .i64 (0)))] = some (.d (.s (.bool (true)))) := up_l (rright_ev (K+5) 0)
  have r1 : evF Tryz.prog env (xl orc) (K+6) 65 [.d (.s (.int .i64 (1)))] = some (.d (.s (.bool (true)))) := up_l (rright_ev (K+5) 1)
  have p1 : evF Tryz.prog env (xl orc) (K+6) 50 [.d (lpD x), .d (.s (.int .i64 (1)))] = some (.d (.s (.bool (has (dueF x) 1)))) := up_l (rpending_ev (K+1) x 1 ix)
  have p2 : evF Tryz.prog env (xl orc) (K+6) 50 [.d (lpD y), .d (.s (.int .i64 (0)))] = some (.d (.s (.bool (has (dueF y) 0)))) := up_l (rpending_ev (K+1) y 0 iy)
  have t1 : evF Tryz.prog env (xl orc) (K+6) 40 [.d (rowsD y.r.d y.r.p y.r.n)] = some (.d (treeD (cut y.r.d) (cut y.r.p))) := up_l (rtree_ev (K+5) _ _ _)
  have t2 : evF Tryz.prog env (xl orc) (K+6) 40 [.d (rowsD x.r.d x.r.p x.r.n)] = some (.d (treeD (cut x.r.d) (cut x.r.p))) := up_l (rtree_ev (K+5) _ _ _)
  rw [dx] at p1
  rw [dy] at p2
  have h01 : ((0 : Int) == 1) = false := rfl
  simp (decide := true) only [sx, sy, r0, r1, h01, p1, p2, t1, t2, ex, ey, Tryz.f19, rid, dp19_1, dp19_4, ↓sBp, sBq, List.all_cons, List.all_nil, List.map_cons, List.map_nil, D.shape, Sh.sub, Sh.size, List.getElem?_cons_zero, List.getElem?_cons_succ, Option.bind_some, Option.bind_none, Option.getD_some, Option.getD_none, V.keysIn, V.kill, V.has, decide_eq_true_eq, beq_iff_eq, bne_iff_ne, ne_eq, Bool.not_eq_true', Bool.and_true, Bool.and_self, Bool.true_and, if_true, if_false, reduceIte, Bool.false_eq_true, decide_true, decide_false, beq_self_eq_true, Bool.not_true, Bool.not_false, true_and, and_true, and_self, List.append_assoc, List.nil_append, List.cons_append, Int.toNat_natCast, ck, Int.cast_ofNat_Int, Int.reduceToNat, bne_self_eq_false, Bool.or_false, Bool.false_or, Bool.false_and, Bool.and_false, Bool.or_true, Bool.true_or]
/- Heard, with a slice that came in, or one of one's own. -/
theorem lheard_ev (K : Nat) (l : LP) (o : OpS) (ho : o.its ≠ [] → orc (.slice o.ad o.its.length o.cp) = some o.its) (hl : o.its.length < 1000000) : evF Tryz.prog env (xl orc) (K+1) 22 [.d (lpD l), .d (.s (.int .i64 (o.n))), .d (.s (.slice o.ad o.its.length o.cp))] = some (.tcons (.d (lpD (heardF l o.n o.its))) (.tcons (.d (.s (.int .i64 (lnE l o.n)))) .tnil)) := up_x (hheard_ev K l o ho hl)
theorem lheard_sl (K : Nat) (l : LP) (n : Int) (its : List Itm) (hl : its.length < 1000000) : evF Tryz.prog env (xl orc) (K+1) 22 [.d (lpD l), .d (.s (.int .i64 (n))), .sl .ro shI (itms its)] = some (.tcons (.d (lpD (heardF l n its))) (.tcons (.d (.s (.int .i64 (lnE l n)))) .tnil)) := up_x (hheard_sl K l n its hl)
theorem rheardL_ev (K : Nat) (l : LP) (hA : AllI l) (o : OpS) (ho : o.its ≠ [] → orc (.slice o.ad o.its.length o.cp) = some o.its) (hl : o.its.length < 1000000) : evF Tryz.prog env (xl orc) (K+1) 12 [.d (lpD l), .d (.s (.int .i64 (o.n))), .d (.s (.slice o.ad o.its.length o.cp))] = some (.tcons (.d (lpD (heardF l o.n o.its))) (.tcons (.d (.s (.int .i64 (lnE l o.n)))) .tnil)) := by
  obtain ⟨kd, n, cost, its, ad, cp⟩ := o
  simp only at ho hl ⊢
  have e : xl orc 12 [.d (lpD l), .d (.s (.int .i64 (n))), .d (.s (.slice ad its.length cp))] = some (.tcons (.d (lpD (heardF l n its))) (.tcons (.d (.s (.int .i64 (lnE l n)))) .tnil)) := by
    cases its with
    | nil =>
      have hx : xl orc 12 [.d (lpD l), .d (.s (.int .i64 (n))), .d (.s (.slice ad ([] : List Itm).length cp))] = rheardX xt 20 [.d (lpD l), .d (.s (.int .i64 (n))), .d (.s (.slice ad 0 cp))] := by
        unfold xl
        rfl
      rw [hx]
      exact rheard_raw 12 l hA n ad cp
    | cons x r =>
      have h2 : toSl orc (.d (.s (.slice ad (x :: r).length cp))) = .sl .ro shI (itms (x :: r)) := by
        have ho := ho (by simp)
        rw [List.length_cons] at ho ⊢
        simp only [toSl, ho]
      have hx : xl orc 12 [.d (lpD l), .d (.s (.int .i64 (n))), .d (.s (.slice ad (x :: r).length cp))] = rheardX xt 20 [.d (lpD l), .d (.s (.int .i64 (n))), toSl orc (.d (.s (.slice ad (x :: r).length cp)))] := by
        unfold xl
        rfl
      rw [hx, h2]
      exact rheard_ev 12 l hA n (x :: r) hl
  simp only [evF, e]
end
end Go.Proofs.YtjceimcepogkaaaGreatDoor.Ev
