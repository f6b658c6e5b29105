/-
  More answers from outside: what the evaluator answered, it answers still.
-/
import Derived.Test.YtjceimcepogkaaaGreatDoorEvY
namespace Go.Proofs.YtjceimcepogkaaaGreatDoor.Ev
open Go

section
variable {E : Env} {call call' : Nat → List V → Option V} (hc : ∀ g l r, call g l = some r → call' g l = some r)
include hc
theorem evP_mono {k ty : Nat} {s : St} {op : Op} {r : V × Option Bk} (h : evP E call k ty s op = some r) : evP E call' k ty s op = some r := by
  cases op
  case call c =>
    obtain ⟨cl, xs, ts⟩ := c
    cases cl with
    | invoke _ _ => exact h
    | builtin b => exact h
    | value f =>
      simp only [evP] at h ⊢
      obtain ⟨f, h1, h⟩ := ob_eq_some h
      obtain ⟨g, h2, h⟩ := ob_eq_some h
      obtain ⟨l, h3, h⟩ := ob_eq_some h
      split at h
      · cases h
      rename_i hq
      obtain ⟨v, h4, h⟩ := ob_eq_some h
      simp only [h1, h2, h3, ob_some, if_neg hq, hc _ _ _ h4, h]
  case slice t x lo hi mx => cases mx <;> exact h
  all_goals exact h
theorem evMut_mono {s : St} {g d : Nat} {l : List V} {v : V} {o : Option St} (h : evMut s (call g) l d v = some o) : evMut s (call' g) l d v = some o := by
  unfold evMut at h ⊢
  split at h
  · split at h
    · rename_i q
      simp only [if_pos q]
      obtain ⟨b, h1, h⟩ := ob_eq_some h
      rw [h1, ob_some]
      split at h
      · obtain ⟨r, h2, h⟩ := ob_eq_some h
        simp only [hc _ _ _ h2, ob_some]
        exact h
      · cases h
    · cases h
  · split at h
    · rename_i q
      simp only [if_pos q]
      obtain ⟨r, h2, h⟩ := ob_eq_some h
      simp only [hc _ _ _ h2, ob_some]
      exact h
    · cases h
  · exact h
theorem evO_mono {dst : Option Nat} {ty : Nat} {s s' : St} {op : Op} (h : evO E call dst ty s op = some s') : evO E call' dst ty s op = some s' := by
  unfold evO at h ⊢
  split at h
  · exact h
  · exact h
  · split at h
    · unfold mutS at h ⊢
      split at h
      · obtain ⟨v, h1, h⟩ := ob_eq_some h
        obtain ⟨l, h2, h⟩ := ob_eq_some h
        obtain ⟨o, h3, h⟩ := ob_eq_some h
        simp only [h1, h2, ob_some, evMut_mono hc h3]
        cases o with
        | some s1 => exact h
        | none =>
          simp only [mutN] at h ⊢
          obtain ⟨v, h4, h⟩ := ob_eq_some h
          rw [evP_mono hc h4, ob_some]
          exact h
      · cases h
    · unfold plainS at h ⊢
      split at h
      · exact h
      · obtain ⟨v, h1, h⟩ := ob_eq_some h
        simp only [evP_mono hc h1, ob_some, h]
  · obtain ⟨v, h1, h⟩ := ob_eq_some h
    rw [evP_mono hc h1, ob_some, h]
theorem evG_mono {ops : List Oper} {o : Oper} {s s' : St} (h : evG E call ops o s = some s') : evG E call' ops o s = some s' := by
  unfold evG at h ⊢
  split at h
  · exact evO_mono hc h
  · split at h
    · exact h
    · obtain ⟨b, h1, h⟩ := ob_eq_some h
      rw [h1, ob_some]
      cases b with
      | true => exact evO_mono hc h
      | false => exact h
theorem evOps_mono {ops : List Oper} : ∀ {l : List Oper} {s s' : St}, evOps E call ops l s = some s' → evOps E call' ops l s = some s'
  | [], _, _, h => h
  | o :: r, s, s', h => by
    simp only [evOps] at h ⊢
    obtain ⟨s1, h1, h⟩ := ob_eq_some h
    rw [evG_mono hc h1, ob_some]
    exact evOps_mono h
omit hc in
theorem iter_mono {f f' : St → Option (Ex × St)} (hf : ∀ s r, f s = some r → f' s = some r) : ∀ (n : Nat) (s : St) (r : Ex × St), iter n f s = some r → iter n f' s = some r
  | 0, _, _, h => by cases h
  | n + 1, s, r, h => by
    simp only [iter] at h ⊢
    cases e : f s with
    | none => rw [e] at h; cases h
    | some x =>
      obtain ⟨x, s1⟩ := x
      rw [e] at h
      rw [hf s _ e]
      cases x with
      | normal => exact iter_mono hf n s1 r h
      | _ => exact h
omit hc in
theorem jumps_mono {f f' : Nat → St → Option (Ex × St)} {g : Nat → Bool} (hf : ∀ l s r, f l s = some r → f' l s = some r) : ∀ (n : Nat) (x y : Option (Ex × St)) (r : Ex × St), (∀ r, x = some r → y = some r) → jumps n f g x = some r → jumps n f' g y = some r
  | 0, _, _, _, _, h => by cases h
  | n + 1, x, y, r, hxy, h => by
    cases x with
    | none => cases h
    | some x =>
      rw [hxy _ rfl]
      obtain ⟨x, s1⟩ := x
      simp only [jumps] at h ⊢
      cases x with
      | goto l =>
        simp only at h ⊢
        split at h
        · rename_i q; rw [if_pos q]; exact jumps_mono hf n _ _ r (fun r => hf l s1 r) h
        · rename_i q; rw [if_neg q]; exact h
      | _ => exact h
omit hc in
theorem sq_mono {x y : Option (Ex × St)} {f f' : St → Option (Ex × St)} {r : Ex × St} (hx : ∀ r, x = some r → y = some r) (hf : ∀ s r, f s = some r → f' s = some r) (h : sq x f = some r) : sq y f' = some r := by
  cases x with
  | none => cases h
  | some x =>
    rw [hx _ rfl]
    obtain ⟨x, s1⟩ := x
    cases x with
    | normal => exact hf s1 r h
    | _ => exact h
omit hc in
theorem bkx_mono {i : Nat} {x y : Option (Ex × St)} {r : Ex × St} (hx : ∀ r, x = some r → y = some r) (h : bkx i x = some r) : bkx i y = some r := by
  cases x with
  | none => cases h
  | some x => rw [hx _ rfl]; exact h
omit hc in
theorem cd_mono {α : Type} {v : Option V} {x y x' y' : Option α} {r : α} (hx : ∀ r, x = some r → x' = some r) (hy : ∀ r, y = some r → y' = some r) (h : cd v x y = some r) : cd v x' y' = some r := by
  unfold cd at h ⊢
  split at h
  · exact hx _ h
  · exact hy _ h
  · cases h
end
section
variable {E : Env} {call call' : Nat → List V → Option V}
mutual
theorem evC_mono (hc : ∀ g l r, call g l = some r → call' g l = some r) (fn lf : Nat) : ∀ (c : Code) (s : St) (r : Ex × St), evC E call fn lf c s = some r → evC E call' fn lf c s = some r
  | .skip, s, r, h => by simp only [evC] at h ⊢; exact h
  | .exit _, s, r, h => by simp only [evC] at h ⊢; exact h
  | .label _, s, r, h => by simp only [evC] at h ⊢; exact h
  | .goto _, s, r, h => by simp only [evC] at h ⊢; exact h
  | .ret, s, r, h => by simp only [evC] at h ⊢; exact h
  | .rangeFunc .., s, r, h => by simp only [evC] at h; cases h
  | .refuse _, s, r, h => by simp only [evC] at h; cases h
  | .region id ops dr, s, r, h => by
    simp only [evC] at h ⊢
    cases dr with
    | false =>
      simp only at h ⊢
      obtain ⟨s1, h1, h⟩ := ob_eq_some h
      rw [evOps_mono hc h1, ob_some]; exact h
    | true =>
      simp only at h ⊢
      split at h
      · rename_i q
        rw [if_pos q]
        obtain ⟨s1, h1, h⟩ := ob_eq_some h
        rw [evOps_mono hc h1, ob_some]; exact h
      · cases h
  | .seq a b, s, r, h => by
    simp only [evC] at h ⊢
    exact sq_mono (evC_mono hc fn lf a s) (evC_mono hc fn lf b) h
  | .cond c a b, s, r, h => by
    simp only [evC] at h ⊢
    exact cd_mono (evC_mono hc fn lf a s) (evC_mono hc fn lf b s) h
  | .block id c, s, r, h => by
    simp only [evC] at h ⊢
    exact bkx_mono (evC_mono hc fn lf c s) h
  | .loop c, s, r, h => by
    simp only [evC] at h ⊢
    obtain ⟨s1, h1, h⟩ := ob_eq_some h
    rw [h1, ob_some]
    exact iter_mono (fun s r h => sq_mono (evC_mono hc fn lf c s) (fun _ _ h => h) h) lf s1 r h
  | .scope c, s, r, h => by
    simp only [evC] at h ⊢
    exact jumps_mono (fun l s r h => evL_mono hc fn lf c l s r h) lf _ _ r (evC_mono hc fn lf c s) h
theorem evL_mono (hc : ∀ g l r, call g l = some r → call' g l = some r) (fn lf : Nat) : ∀ (c : Code) (l : Nat) (s : St) (r : Ex × St), evL E call fn lf c l s = some r → evL E call' fn lf c l s = some r
  | .seq a b, l, s, r, h => by
    simp only [evL] at h ⊢
    split at h
    · rename_i q; rw [if_pos q]; exact sq_mono (evL_mono hc fn lf a l s) (evC_mono hc fn lf b) h
    · rename_i q; rw [if_neg q]; exact evL_mono hc fn lf b l s r h
  | .label _, l, s, r, h => by simp only [evL] at h ⊢; exact h
  | .skip, l, s, r, h => by simp only [evL] at h; cases h
  | .exit _, l, s, r, h => by simp only [evL] at h; cases h
  | .goto _, l, s, r, h => by simp only [evL] at h; cases h
  | .ret, l, s, r, h => by simp only [evL] at h; cases h
  | .rangeFunc .., l, s, r, h => by simp only [evL] at h; cases h
  | .refuse _, l, s, r, h => by simp only [evL] at h; cases h
  | .region .., l, s, r, h => by simp only [evL] at h; cases h
  | .cond .., l, s, r, h => by simp only [evL] at h; cases h
  | .block .., l, s, r, h => by simp only [evL] at h; cases h
  | .loop _, l, s, r, h => by simp only [evL] at h; cases h
  | .scope _, l, s, r, h => by simp only [evL] at h; cases h
end
end
theorem evF_mono {P : Program} {E : Env} {ext ext' : Nat → List V → Option V} (hx : ∀ g l r, ext g l = some r → ext' g l = some r) (hn : ∀ g l, ext g l = none → ext' g l ≠ none → E.ok g = false) :
    ∀ (n f : Nat) (vs : List V) (r : V), evF P E ext n f vs = some r → evF P E ext' n f vs = some r
  | 0, _, _, _, h => by cases h
  | n + 1, f, vs, r, h => by
    simp only [evF] at h ⊢
    cases e : ext f vs with
    | some a => rw [e] at h; rw [hx _ _ _ e]; exact h
    | none =>
      rw [e] at h
      simp only at h
      obtain ⟨fn, h1, h⟩ := ob_eq_some h
      obtain ⟨c, h2, h⟩ := ob_eq_some h
      split at h
      · rename_i q
        have e' : ext' f vs = none := by
          cases e' : ext' f vs with
          | none => rfl
          | some b => have := hn f vs e (by rw [e']; simp); rw [this] at q; cases q.1
        rw [e']
        simp only [h1, h2, ob_some, if_pos q]
        cases hmq : mutq f vs with
        | true =>
          obtain ⟨hmu, m, u, gg, l', rfl⟩ := mutq_some hmq
          rw [runF_mu hmu] at h ⊢
          split at h
          · rename_i q2
            rw [if_pos q2]
            cases hr : evC E (evF P E ext n) f loopFuel c (enterM fn.ntmps m u (.arr m u gg) l') with
            | none => rw [hr] at h; cases h
            | some x => rw [evC_mono (fun g l r h => evF_mono hx hn n g l r h) f loopFuel c _ _ hr]; rw [hr] at h; exact h
          · cases h
        | false =>
          rw [runF_no hmq] at h ⊢
          cases hr : evC E (evF P E ext n) f loopFuel c (enter vs) with
          | none => rw [hr] at h; cases h
          | some x => rw [evC_mono (fun g l r h => evF_mono hx hn n g l r h) f loopFuel c _ _ hr]; rw [hr] at h; exact h
      · cases h
end Go.Proofs.YtjceimcepogkaaaGreatDoor.Ev
