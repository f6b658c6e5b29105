/- Slices within what came in: what is read through them is given from outside; a step of a node's play. -/
import Derived.Test.YtjceimcepogkaaaGreatDoorLu
import Derived.Test.YtjceimcepogkaaaGreatDoorEvN
import Derived.Test.YtjceimcepogkaaaGreatDoorXo
import Derived.Test.YtjceimcepogkaaaGreatDoorFacts
namespace Go.Proofs.YtjceimcepogkaaaGreatDoor.Ev
open Go
attribute [local congr] ob_congr sq_congr cd_congr ite_congr1 iter_congr it1_congr jumps_congr
set_option maxRecDepth 100000
set_option linter.unusedSimpArgs false
set_option linter.unusedVariables false
def toSl (orc : Value → Option (List Itm)) : V → V
  | .d (.s (.slice a (n + 1) c)) =>
    match orc (.slice a (n + 1) c) with
    | some l => .sl .ro shI (itms l)
    | none => .d (.s (.slice a (n + 1) c))
  | v => v
noncomputable def xo (orc : Value → Option (List Itm)) (f : Nat) (l : List V) : Option V :=
  match f == 22 with
  | true => if l.length = 3 then heardX xt 20 (l.map (toSl orc)) else none
  | false => xt f l
/-- What is given from outside lies so in the world. -/
def JW (orc : Value → Option (List Itm)) (B : Nat) (w : World) : Prop := ∀ v its, orc v = some its → RS w B shI (itms its) v
theorem JW_below {orc : Value → Option (List Itm)} {B0 : Nat} : ∀ w w' B, B0 ≤ B → Below B w w' → JW orc B0 w → JW orc B0 w' := by
  intro w w' B hB hb h v its hv
  obtain ⟨h1, h2⟩ := h v its hv
  refine ⟨h1, ?_⟩
  rcases h2 with h2 | ⟨g, o, cap, cs, T, fr, q1, q2, q3, q4, q5⟩
  · exact .inl h2
  · exact .inr ⟨g, o, cap, cs, T, fr, q1, q2, q3, (hb.block g (by omega)).trans q4, q5⟩
theorem RA_toSl {orc : Value → Option (List Itm)} {B0 : Nat} {w : World} (hJ : JW orc B0 w) (hB : B0 ≤ w.heap.size) : ∀ {l : List V} {vs : List Value}, RA w l vs → RA w (l.map (toSl orc)) vs
  | [], [], h => h
  | [], _ :: _, h => h.elim
  | _ :: _, [], h => h.elim
  | v :: l, u :: us, ⟨h1, h2⟩ => by
    refine ⟨?_, RA_toSl hJ hB h2⟩
    unfold toSl
    split
    · rename_i a n c
      split
      · rename_i its hv
        obtain ⟨_, hu⟩ := h1
        have hu : u = .slice a (n + 1) c := hu
        subst hu
        obtain ⟨q1, q2⟩ := hJ _ its hv
        refine ⟨q1, ?_⟩
        rcases q2 with q2 | ⟨g, o, cap, cs, T, fr, p1, p2, p3, p4, p5⟩
        · exact .inl q2
        · exact .inr ⟨g, o, cap, cs, T, fr, by omega, p2, p3, p4, p5⟩
      · exact h1
    · exact h1
theorem xo_ok {orc : Value → Option (List Itm)} {B0 : Nat} : ∀ f l r, xo orc f l = some r → ∀ w, JW orc B0 w → B0 ≤ w.heap.size → CallAt Tryz.prog w f l r := by
  intro f l r h w hJ hB
  unfold xo at h
  cases h1 : f == 22 with
  | false => rw [h1] at h; exact (xt_ok f l r h).at w
  | true =>
    rw [h1] at h
    obtain rfl : f = 22 := beq_iff_eq.1 h1
    simp only at h
    split at h
    · rename_i hl
      unfold heardX at h
      rw [show Tryz.f22.body = some _ from rfl, ob_some] at h
      have hb := body_ok (P := Tryz.prog) (E := env) env_ok (f := 22) Tryz.func22 rfl (by kernel_rfl) (by kernel_rfl) (l := l.map (toSl orc)) (by rw [List.length_map, hl]; decide) (evF_sound env_ok fns_ok (ext := xt) xt_ok 20) (noMut' rfl) h
      exact ⟨(hb.at w).fn, fun vs hra => (hb.at w).run vs (RA_toSl hJ hB hra)⟩
    · cases h
section
variable {orc : Value → Option (List Itm)}
theorem xo_xt : ∀ g l r, xt g l = some r → xo orc g l = some r := by
  intro g l r h
  unfold xo
  cases h1 : g == 22 with
  | false => exact h
  | true =>
    obtain rfl : g = 22 := beq_iff_eq.1 h1
    have e : xt 22 l = none := rfl
    rw [e] at h; cases h
theorem xo_new : ∀ g l, xt g l = none → xo orc g l ≠ none → env.ok g = false := by
  intro g l h h2
  unfold xo at h2
  cases h1 : g == 22 with
  | false => rw [h1] at h2; exact absurd h h2
  | true =>
    obtain rfl : g = 22 := beq_iff_eq.1 h1
    rfl
theorem up_o {n f : Nat} {l : List V} {r : V} (h : evF Tryz.prog env xt n f l = some r) : evF Tryz.prog env (xo orc) n f l = some r := evF_mono xo_xt xo_new n f l r h
structure OpS where
  kd : Int
  n : Int
  cost : Int
  its : List Itm
  ad : Option Addr
  cp : Nat
abbrev shO : Sh := .cons cI (.cons cI (.cons cU (.cons (.cell .other) .nil)))
abbrev opD (o : OpS) : D := .cons (dI o.kd) (.cons (dI o.n) (.cons (dU o.cost) (.cons (.s (.slice o.ad o.its.length o.cp)) .nil)))
noncomputable def stepF (l : LP) (o : OpS) : LP := if o.kd = 0 then upF l o.n o.cost else if o.kd = 1 then downF l o.n else if o.kd = 2 then costF l o.n o.cost else if o.kd = 3 then heardF l o.n o.its else drainF l o.n
def stepE (l : LP) (o : OpS) : Int := if o.kd = 0 then upE l o.n o.cost else if o.kd = 1 then lnE l o.n else if o.kd = 2 then coE l o.n o.cost else if o.kd = 3 then lnE l o.n else 0
def stepI (l : LP) (o : OpS) : List D := if o.kd = 0 then [] else if o.kd = 1 then [] else if o.kd = 2 then [] else if o.kd = 3 then [] else drainI l o.n
theorem hheard_ev (K : Nat) (l : LP) (o : OpS) (ho : o.its ≠ [] → orc (.slice o.ad o.its.length o.cp) = some o.its) (hl : o.its.length < 1000000) : evF Tryz.prog env (xo orc) (K+1) 22 [.d (lpD l), .d (.s (.int .i64 (o.n))), .d (.s (.slice o.ad o.its.length o.cp))] = some (.tcons (.d (lpD (heardF l o.n o.its))) (.tcons (.d (.s (.int .i64 (lnE l o.n)))) .tnil)) := by
  obtain ⟨kd, n, cost, its, ad, cp⟩ := o
  simp only at ho hl ⊢
  have e : xo orc 22 [.d (lpD l), .d (.s (.int .i64 (n))), .d (.s (.slice ad its.length cp))] = some (.tcons (.d (lpD (heardF l n its))) (.tcons (.d (.s (.int .i64 (lnE l n)))) .tnil)) := by
    cases its with
    | nil =>
      have hx : xo orc 22 [.d (lpD l), .d (.s (.int .i64 (n))), .d (.s (.slice ad ([] : List Itm).length cp))] = heardX xt 20 [.d (lpD l), .d (.s (.int .i64 (n))), .d (.s (.slice ad 0 cp))] := by
        unfold xo
        rfl
      rw [hx]
      exact heard_raw 12 l n ad cp
    | cons x r =>
      have h2 : toSl orc (.d (.s (.slice ad (x :: r).length cp))) = .sl .ro shI (itms (x :: r)) := by
        have ho := ho (by simp)
        rw [List.length_cons] at ho ⊢
        simp only [toSl, ho]
      have hx : xo orc 22 [.d (lpD l), .d (.s (.int .i64 (n))), .d (.s (.slice ad (x :: r).length cp))] = heardX xt 20 [.d (lpD l), .d (.s (.int .i64 (n))), toSl orc (.d (.s (.slice ad (x :: r).length cp)))] := by
        unfold xo
        rfl
      rw [hx, h2]
      exact heard_ev 12 l n (x :: r) hl
  simp only [evF, e]
theorem step_ev (K : Nat) (l : LP) (o : OpS) (ho : o.its ≠ [] → orc (.slice o.ad o.its.length o.cp) = some o.its) (hl : o.its.length < 1000000) :
    evF Tryz.prog env (xo orc) (K+10) 8 [.d (lpD l), .d (opD o)] = some (.tcons (.d (lpD (stepF l o))) (.tcons (.sl .ro shI (stepI l o)) (.tcons (.d (.s (.int .i64 (stepE l o)))) .tnil))) := by
  rw [evF_eq Tryz.func8 (show Tryz.f8.body = some _ from rfl) rfl rfl rfl (by show 2 ≤ 63; decide)]
  by_cases h0 : o.kd = 0
  · have e1 : stepF l o = upF l o.n o.cost := by unfold stepF; rw [if_pos h0]
    have e2 : stepE l o = upE l o.n o.cost := by unfold stepE; rw [if_pos h0]
    have e3 : stepI l o = [] := by unfold stepI; rw [if_pos h0]
    rw [e1, e2, e3]
    have e : evF Tryz.prog env (xo orc) (K+9) 20 [.d (lpD l), .d (.s (.int .i64 (o.n))), .d (.s (.int .u32 (o.cost)))] = _ := up_o (lpUp_ev K l o.n o.cost)
    generalize upF l o.n o.cost = m at e
    have h0' : (o.kd == 0) = true := by rw [h0]; rfl
    simp (decide := true) only [h0', e, Tryz.f8, rid, ↓sBp, sBq, List.all_cons, List.all_nil, List.map_cons, List.map_nil, D.shape, Sh.sub, Sh.size, List.getElem?_cons_zero, List.getElem?_cons_succ, Option.bind_some, Option.bind_none, Option.getD_some, Option.getD_none, V.keysIn, V.kill, V.has, decide_eq_true_eq, beq_iff_eq, bne_iff_ne, ne_eq, Bool.not_eq_true', Bool.and_true, Bool.and_self, Bool.true_and, if_true, if_false, reduceIte, Bool.false_eq_true, decide_true, decide_false, beq_self_eq_true, Bool.not_true, Bool.not_false, true_and, and_true, and_self, List.append_assoc, List.nil_append, List.cons_append, Int.toNat_natCast, ck, Int.cast_ofNat_Int, Int.reduceToNat, bne_self_eq_false, Bool.or_false, Bool.false_or, Bool.false_and, Bool.and_false, Bool.or_true, Bool.true_or]
  have h0' : (o.kd == 0) = false := by simpa using h0
  by_cases h1 : o.kd = 1
  · have e1 : stepF l o = downF l o.n := by unfold stepF; rw [if_neg h0, if_pos h1]
    have e2 : stepE l o = lnE l o.n := by unfold stepE; rw [if_neg h0, if_pos h1]
    have e3 : stepI l o = [] := by unfold stepI; rw [if_neg h0, if_pos h1]
    rw [e1, e2, e3]
    have e : evF Tryz.prog env (xo orc) (K+9) 26 [.d (lpD l), .d (.s (.int .i64 (o.n)))] = _ := up_o (lpDown_ev K l o.n)
    generalize downF l o.n = m at e
    have h1' : (o.kd == 1) = true := by rw [h1]; rfl
    simp (decide := true) only [h0', h1', e, Tryz.f8, rid, ↓sBp, sBq, List.all_cons, List.all_nil, List.map_cons, List.map_nil, D.shape, Sh.sub, Sh.size, List.getElem?_cons_zero, List.getElem?_cons_succ, Option.bind_some, Option.bind_none, Option.getD_some, Option.getD_none, V.keysIn, V.kill, V.has, decide_eq_true_eq, beq_iff_eq, bne_iff_ne, ne_eq, Bool.not_eq_true', Bool.and_true, Bool.and_self, Bool.true_and, if_true, if_false, reduceIte, Bool.false_eq_true, decide_true, decide_false, beq_self_eq_true, Bool.not_true, Bool.not_false, true_and, and_true, and_self, List.append_assoc, List.nil_append, List.cons_append, Int.toNat_natCast, ck, Int.cast_ofNat_Int, Int.reduceToNat, bne_self_eq_false, Bool.or_false, Bool.false_or, Bool.false_and, Bool.and_false, Bool.or_true, Bool.true_or]
  have h1' : (o.kd == 1) = false := by simpa using h1
  by_cases h2 : o.kd = 2
  · have e1 : stepF l o = costF l o.n o.cost := by unfold stepF; rw [if_neg h0, if_neg h1, if_pos h2]
    have e2 : stepE l o = coE l o.n o.cost := by unfold stepE; rw [if_neg h0, if_neg h1, if_pos h2]
    have e3 : stepI l o = [] := by unfold stepI; rw [if_neg h0, if_neg h1, if_pos h2]
    rw [e1, e2, e3]
    have e : evF Tryz.prog env (xo orc) (K+9) 27 [.d (lpD l), .d (.s (.int .i64 (o.n))), .d (.s (.int .u32 (o.cost)))] = _ := up_o (lpCost_ev K l o.n o.cost)
    generalize costF l o.n o.cost = m at e
    have h2' : (o.kd == 2) = true := by rw [h2]; rfl
    simp (decide := true) only [h0', h1', h2', e, Tryz.f8, rid, ↓sBp, sBq, List.all_cons, List.all_nil, List.map_cons, List.map_nil, D.shape, Sh.sub, Sh.size, List.getElem?_cons_zero, List.getElem?_cons_succ, Option.bind_some, Option.bind_none, Option.getD_some, Option.getD_none, V.keysIn, V.kill, V.has, decide_eq_true_eq, beq_iff_eq, bne_iff_ne, ne_eq, Bool.not_eq_true', Bool.and_true, Bool.and_self, Bool.true_and, if_true, if_false, reduceIte, Bool.false_eq_true, decide_true, decide_false, beq_self_eq_true, Bool.not_true, Bool.not_false, true_and, and_true, and_self, List.append_assoc, List.nil_append, List.cons_append, Int.toNat_natCast, ck, Int.cast_ofNat_Int, Int.reduceToNat, bne_self_eq_false, Bool.or_false, Bool.false_or, Bool.false_and, Bool.and_false, Bool.or_true, Bool.true_or]
  have h2' : (o.kd == 2) = false := by simpa using h2
  by_cases h3 : o.kd = 3
  · have e1 : stepF l o = heardF l o.n o.its := by unfold stepF; rw [if_neg h0, if_neg h1, if_neg h2, if_pos h3]
    have e2 : stepE l o = lnE l o.n := by unfold stepE; rw [if_neg h0, if_neg h1, if_neg h2, if_pos h3]
    have e3 : stepI l o = [] := by unfold stepI; rw [if_neg h0, if_neg h1, if_neg h2, if_pos h3]
    rw [e1, e2, e3]
    have e := hheard_ev (orc := orc) (K+8) l o ho hl
    generalize heardF l o.n o.its = m at e
    have h3' : (o.kd == 3) = true := by rw [h3]; rfl
    simp (decide := true) only [h0', h1', h2', h3', e, Tryz.f8, rid, ↓sBp, sBq, List.all_cons, List.all_nil, List.map_cons, List.map_nil, D.shape, Sh.sub, Sh.size, List.getElem?_cons_zero, List.getElem?_cons_succ, Option.bind_some, Option.bind_none, Option.getD_some, Option.getD_none, V.keysIn, V.kill, V.has, decide_eq_true_eq, beq_iff_eq, bne_iff_ne, ne_eq, Bool.not_eq_true', Bool.and_true, Bool.and_self, Bool.true_and, if_true, if_false, reduceIte, Bool.false_eq_true, decide_true, decide_false, beq_self_eq_true, Bool.not_true, Bool.not_false, true_and, and_true, and_self, List.append_assoc, List.nil_append, List.cons_append, Int.toNat_natCast, ck, Int.cast_ofNat_Int, Int.reduceToNat, bne_self_eq_false, Bool.or_false, Bool.false_or, Bool.false_and, Bool.and_false, Bool.or_true, Bool.true_or]
  have h3' : (o.kd == 3) = false := by simpa using h3
  have e1 : stepF l o = drainF l o.n := by unfold stepF; rw [if_neg h0, if_neg h1, if_neg h2, if_neg h3]
  have e2 : stepE l o = 0 := by unfold stepE; rw [if_neg h0, if_neg h1, if_neg h2, if_neg h3]
  have e3 : stepI l o = drainI l o.n := by unfold stepI; rw [if_neg h0, if_neg h1, if_neg h2, if_neg h3]
  rw [e1, e2, e3]
  have e : evF Tryz.prog env (xo orc) (K+9) 21 [.d (lpD l), .d (.s (.int .i64 (o.n)))] = _ := up_o (drain_ev (K+3) l o.n)
  generalize drainF l o.n = m at e
  simp (decide := true) only [h0', h1', h2', h3', e, Tryz.f8, rid, ↓sBp, sBq, List.all_cons, List.all_nil, List.map_cons, List.map_nil, D.shape, Sh.sub, Sh.size, List.getElem?_cons_zero, List.getElem?_cons_succ, Option.bind_some, Option.bind_none, Option.getD_some, Option.getD_none, V.keysIn, V.kill, V.has, decide_eq_true_eq, beq_iff_eq, bne_iff_ne, ne_eq, Bool.not_eq_true', Bool.and_true, Bool.and_self, Bool.true_and, if_true, if_false, reduceIte, Bool.false_eq_true, decide_true, decide_false, beq_self_eq_true, Bool.not_true, Bool.not_false, true_and, and_true, and_self, List.append_assoc, List.nil_append, List.cons_append, Int.toNat_natCast, ck, Int.cast_ofNat_Int, Int.reduceToNat, bne_self_eq_false, Bool.or_false, Bool.false_or, Bool.false_and, Bool.and_false, Bool.or_true, Bool.true_or]
end
end Go.Proofs.YtjceimcepogkaaaGreatDoor.Ev
