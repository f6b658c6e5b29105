/-
  Regions that draw their order, further: operations that do not meddle may change places.
-/
import Derived.Test.YtjceimcepogkaaaGreatDoorEvT
namespace Go.Proofs.YtjceimcepogkaaaGreatDoor.Ev
open Go Go.RowKit

/-- Whatever a slot points at is there. -/
def WFp (s : St) : Prop := ∀ i k, (s.t i).has k = true → s.m k ≠ none

section
variable {E : Env} {call : Nat → List V → Option V} {s s' : St} {k ty : Nat}

theorem opd_live (h : WFp s) {t : Nat} {x : Operand} {v : V} (hv : opd E t s x = some v) {k : Nat} (hk : v.has k = true) : s.m k ≠ none := by
  cases x with
  | tmp i => simp only [opd] at hv; cases hv; exact h i k hk
  | const c =>
    have : v.has k = false := by
      have h2 : cst E t c = some v := hv
      unfold cst at h2
      split at h2
      · split at h2
        · obtain ⟨te, _, h3⟩ := ob_eq_some h2; cases h3; rfl
        · cases h2
      all_goals first | (cases h2; rfl) | cases h2
    rw [this] at hk; cases hk
  | global g => cases hv
  | func f => simp only [opd] at hv; cases hv; simp [V.has] at hk

theorem evMove_live (h : WFp s) {t : Nat} {x : Operand} {v : V} {b : Option Bk} (hv : evMove E k t s x = some (v, b)) {k' : Nat} (hk : v.has k' = true) : (k' = k ∧ b ≠ none) ∨ s.m k' ≠ none := by
  unfold evMove at hv
  split at hv
  · split at hv
    · obtain ⟨te, _, h3⟩ := ob_eq_some hv
      cases h3
      simp [V.has] at hk
      exact .inl ⟨hk.symm, by simp⟩
    · cases hv
  · obtain ⟨v', h1, h2⟩ := ob_eq_some hv
    cases h2
    exact .inr (opd_live h h1 hk)

theorem dat_has (x : D) (k : Nat) : (V.d x).has k = false := rfl

theorem ret1_has {r v : V} {b : Option Bk} (h : ret1 k r = some (v, b)) {k' : Nat} (hk : v.has k' = true) : k' = k ∧ b ≠ none := by
  cases r with
  | d x => simp only [ret1] at h; cases h; cases hk
  | sl ow sh es => simp only [ret1] at h; cases h; simp [V.has] at hk; exact ⟨hk.symm, by simp⟩
  | _ => simp [ret1] at h

theorem retT_has : ∀ {r v : V} {b : Option Bk}, retT k r = some (v, b) → ∀ {k' : Nat}, v.has k' = true → k' = k ∧ b ≠ none
  | .tnil, v, b, h, k', hk => by simp only [retT] at h; cases h; cases hk
  | .tcons x y, v, b, h, k', hk => by
    simp only [retT] at h
    obtain ⟨⟨v1, b1⟩, h1, h⟩ := ob_eq_some h
    obtain ⟨⟨v2, b2⟩, h2, h⟩ := ob_eq_some h
    obtain ⟨c, h3, h⟩ := ob_eq_some h
    cases h
    simp only [V.has, Bool.or_eq_true] at hk
    simp only at h3
    rcases hk with hk | hk
    · obtain ⟨q1, q2⟩ := ret1_has h1 hk
      refine ⟨q1, ?_⟩
      cases b1 with
      | none => exact absurd rfl q2
      | some z => cases b2 <;> simp [joinB] at h3; subst h3; simp
    · obtain ⟨q1, q2⟩ := retT_has h2 hk
      refine ⟨q1, ?_⟩
      cases b2 with
      | none => exact absurd rfl q2
      | some z => cases b1 <;> simp [joinB] at h3; subst h3; simp
  | .d _, _, _, h, _, _ => by simp [retT] at h
  | .ptr _ _ _ _, _, _, h, _, _ => by simp [retT] at h
  | .sl _ _ _, _, _, h, _, _ => by simp [retT] at h
  | .ep _ _ _, _, _, h, _, _ => by simp [retT] at h
  | .undef, _, _, h, _, _ => by simp [retT] at h
  | .junk, _, _, h, _, _ => by simp [retT] at h
  | .clos _ _, _, _, h, _, _ => by simp [retT] at h
  | .ms _ _ _, _, _, h, _, _ => by simp [retT] at h

theorem retV_has {r v : V} {b : Option Bk} (h : retV k r = some (v, b)) {k' : Nat} (hk : v.has k' = true) : k' = k ∧ b ≠ none := by
  cases r with
  | d x => simp only [retV] at h; cases h; cases hk
  | sl ow sh es => simp only [retV] at h; cases h; simp [V.has] at hk; exact ⟨hk.symm, by simp⟩
  | tnil => simp only [retV] at h; cases h; cases hk
  | tcons x y => exact retT_has h hk
  | clos g c =>
    unfold retV at h
    split at h <;> first | cases h | skip
    · rename_i e; cases e
    · rename_i e; cases e
    · rename_i e; cases e
    · rename_i e; cases e
    · simp [V.has] at hk
    · simp [V.has] at hk; exact ⟨hk.symm, by simp⟩
  | ptr _ _ _ _ => simp [retV] at h
  | ep _ _ _ => simp [retV] at h
  | undef => simp [retV] at h
  | junk => simp [retV] at h
  | ms _ _ _ => simp [retV] at h

theorem capL_has (hw : WFp s) : ∀ (xs : List Operand) (c : V), capL E s xs = some c → ∀ {k : Nat}, c.has k = true → s.m k ≠ none
  | [], c, h, k, hk => by simp only [capL] at h; cases h; cases hk
  | x :: xs, c, h, k, hk => by
    simp only [capL] at h
    obtain ⟨v, h1, h⟩ := ob_eq_some h
    obtain ⟨v', h2, h⟩ := ob_eq_some h
    obtain ⟨c', h3, h⟩ := ob_eq_some h
    cases h
    simp only [V.has, Bool.or_eq_true] at hk
    rcases hk with hk | hk
    · unfold capV at h2
      split at h2 <;> cases h2
      · exact opd_live hw h1 hk
      · exact opd_live hw h1 hk
      · exact opd_live hw h1 hk
      · exact opd_live hw h1 hk
    · exact capL_has hw xs c' h3 hk

theorem nthV_has : ∀ {x v : V} {i k : Nat}, nthV x i = some v → v.has k = true → x.has k = true
  | .tcons a b, v, 0, k, h, hk => by simp only [nthV] at h; cases h; simp [V.has, hk]
  | .tcons a b, v, i + 1, k, h, hk => by simp only [nthV] at h; simp [V.has, nthV_has h hk]
  | .tnil, _, _, _, h, _ => by simp [nthV] at h
  | .d _, _, _, _, h, _ => by simp [nthV] at h
  | .ptr _ _ _ _, _, _, _, h, _ => by simp [nthV] at h
  | .sl _ _ _, _, _, _, h, _ => by simp [nthV] at h
  | .ep _ _ _, _, _, _, h, _ => by simp [nthV] at h
  | .undef, _, _, _, h, _ => by simp [nthV] at h
  | .junk, _, _, _, h, _ => by simp [nthV] at h
  | .clos _ _, _, _, _, h, _ => by simp [nthV] at h
  | .ms _ _ _, _, _, _, h, _ => by simp [nthV] at h

theorem evLoad_has {m : Nat → Option Bk} {t : Nat} {x v : V} (h : evLoad E m t x = some v) (k : Nat) : v.has k = false := by
  unfold evLoad at h
  split at h
  · obtain ⟨ty, _, h⟩ := ob_eq_some h
    obtain ⟨b, _, h⟩ := ob_eq_some h
    cases b with
    | row => cases h
    | box x => simp only at h; split at h <;> cases h; rfl
  · obtain ⟨ty, _, h⟩ := ob_eq_some h
    split at h <;> cases h; rfl
  · cases h

theorem evIndexAddr_has {t : Nat} {x i v : V} (h : evIndexAddr E t x i = some v) {k : Nat} (hk : v.has k = true) : x.has k = true := by
  unfold evIndexAddr at h
  split at h
  · obtain ⟨ty, _, h⟩ := ob_eq_some h
    split at h
    · obtain ⟨te, _, h⟩ := ob_eq_some h
      split at h <;> cases h; exact hk
    · cases h
  · rename_i ow sh es ik n
    obtain ⟨ty, _, h⟩ := ob_eq_some h
    split at h
    · obtain ⟨te, _, h⟩ := ob_eq_some h
      split at h
      · obtain ⟨y, _, h⟩ := ob_eq_some h
        cases h
        cases ow <;> exact hk
      · cases h
    · cases h
  · rename_i ow l u y ik n
    obtain ⟨ty, _, h⟩ := ob_eq_some h
    split at h
    · obtain ⟨te, _, h⟩ := ob_eq_some h
      split at h <;> cases h; cases ow <;> exact hk
    · cases h
  · obtain ⟨ty, _, h⟩ := ob_eq_some h
    split at h
    · obtain ⟨te, _, h⟩ := ob_eq_some h
      split at h <;> cases h; exact hk
    · cases h
  · cases h

theorem evFieldAddr_has {t j : Nat} {x v : V} (h : evFieldAddr E t j x = some v) {k : Nat} (hk : v.has k = true) : x.has k = true := by
  unfold evFieldAddr at h
  split at h
  · obtain ⟨ty, _, h⟩ := ob_eq_some h
    split at h
    · split at h
      · obtain ⟨u', _, h⟩ := ob_eq_some h
        split at h <;> cases h; exact hk
      · cases h
    · cases h
  · rename_i ow sh y
    obtain ⟨ty, _, h⟩ := ob_eq_some h
    split at h
    · split at h
      · obtain ⟨u', _, h⟩ := ob_eq_some h
        split at h <;> cases h; cases ow <;> exact hk
      · cases h
    · cases h
  · cases h

theorem scal_has {x : Sem Value} {v : V} (h : scal x = some v) (k : Nat) : v.has k = false := by
  obtain ⟨y, _, _, rfl⟩ := scal_some h; rfl

theorem evBin_has {op : BinOp} {t : Nat} {x y v : V} (h : evBin E op t x y = some v) (k : Nat) : v.has k = false := by
  unfold evBin at h
  split at h
  · split at h
    · split at h <;> cases h <;> rfl
    · cases h
  · exact scal_has h k
  · exact scal_has h k
  · exact scal_has h k
  · cases h
  · obtain ⟨ty, _, h⟩ := ob_eq_some h
    split at h
    · split at h <;> cases h <;> rfl
    · cases h
  · cases h

theorem evP_live (h : WFp s) {op : Op} {v : V} {b : Option Bk} (hv : evP E call k ty s op = some (v, b)) {k' : Nat} (hk : v.has k' = true) : (k' = k ∧ b ≠ none) ∨ s.m k' ≠ none := by
  have no : v.has k' = false → (k' = k ∧ b ≠ none) ∨ s.m k' ≠ none := fun e => by rw [e] at hk; cases hk
  cases op
  case move x => exact evMove_live h hv hk
  case assign x => exact evMove_live h hv hk
  case pick c x y =>
    simp only [evP] at hv
    obtain ⟨cv, h1, hv⟩ := ob_eq_some hv
    obtain ⟨hv, _⟩ := pure1_some hv
    unfold evPick at hv
    split at hv
    · exact .inr (opd_live h hv hk)
    · exact .inr (opd_live h hv hk)
    · cases hv
  case box t x =>
    simp only [evP] at hv
    obtain ⟨xv, h1, hv⟩ := ob_eq_some hv
    obtain ⟨y, h2, hv⟩ := ob_eq_some hv
    cases hv
    simp [V.has] at hk
    exact .inl ⟨hk.symm, by simp⟩
  case alloc t =>
    simp only [evP] at hv
    obtain ⟨te, h1, hv⟩ := ob_eq_some hv
    cases hv
    simp [V.has] at hk
    exact .inl ⟨hk.symm, by simp⟩
  case load t x =>
    simp only [evP] at hv
    obtain ⟨xv, h1, hv⟩ := ob_eq_some hv
    obtain ⟨hv, _⟩ := pure1_some hv
    exact no (evLoad_has hv k')
  case indexAddr t x i =>
    simp only [evP] at hv
    obtain ⟨xv, h1, hv⟩ := ob_eq_some hv
    obtain ⟨iv, h2, hv⟩ := ob_eq_some hv
    obtain ⟨hv, _⟩ := pure1_some hv
    exact .inr (opd_live h h1 (evIndexAddr_has hv hk))
  case fieldAddr t x j =>
    simp only [evP] at hv
    obtain ⟨xv, h1, hv⟩ := ob_eq_some hv
    obtain ⟨hv, _⟩ := pure1_some hv
    exact .inr (opd_live h h1 (evFieldAddr_has hv hk))
  case index t x i =>
    simp only [evP] at hv
    obtain ⟨xv, h1, hv⟩ := ob_eq_some hv
    obtain ⟨iv, h2, hv⟩ := ob_eq_some hv
    obtain ⟨hv, _⟩ := pure1_some hv
    refine no ?_
    unfold evIndex at hv
    split at hv
    · obtain ⟨ty, _, hv⟩ := ob_eq_some hv
      split at hv
      · obtain ⟨te, _, hv⟩ := ob_eq_some hv
        split at hv <;> cases hv; rfl
      · cases hv
    · obtain ⟨ty, _, hv⟩ := ob_eq_some hv
      split at hv
      · split at hv
        · obtain ⟨c, _, hv⟩ := ob_eq_some hv
          cases hv; rfl
        · cases hv
      · cases hv
    · cases hv
  case field t x j =>
    simp only [evP] at hv
    obtain ⟨xv, h1, hv⟩ := ob_eq_some hv
    obtain ⟨hv, _⟩ := pure1_some hv
    refine no ?_
    unfold evField at hv
    split at hv
    · obtain ⟨ty, _, hv⟩ := ob_eq_some hv
      split at hv
      · split at hv
        · obtain ⟨u, _, hv⟩ := ob_eq_some hv
          cases hv; rfl
        · cases hv
      · cases hv
    · cases hv
  case extract x i =>
    simp only [evP] at hv
    obtain ⟨xv, h1, hv⟩ := ob_eq_some hv
    obtain ⟨hv, _⟩ := pure1_some hv
    exact .inr (opd_live h h1 (nthV_has hv hk))
  case build t parts =>
    simp only [evP] at hv
    obtain ⟨hv, _⟩ := pure1_some hv
    refine no ?_
    unfold evBuild at hv
    obtain ⟨ty, _, hv⟩ := ob_eq_some hv
    split at hv
    · obtain ⟨z, _, hv⟩ := ob_eq_some hv
      cases hv; rfl
    · obtain ⟨z, _, hv⟩ := ob_eq_some hv
      cases hv; rfl
    · cases hv
  case buildSlice t len parts =>
    simp only [evP, evBuildSlice] at hv
    obtain ⟨ty, _, hv⟩ := ob_eq_some hv
    split at hv
    · obtain ⟨te, _, hv⟩ := ob_eq_some hv
      split at hv
      · obtain ⟨es, _, hv⟩ := ob_eq_some hv
        cases hv
        simp [V.has] at hk
        exact .inl ⟨hk.symm, by simp⟩
      · cases hv
    · cases hv
  case binOp op t x y t' =>
    simp only [evP] at hv
    obtain ⟨xv, h1, hv⟩ := ob_eq_some hv
    obtain ⟨yv, h2, hv⟩ := ob_eq_some hv
    obtain ⟨hv, _⟩ := pure1_some hv
    exact no (evBin_has hv k')
  case unOp op t x =>
    simp only [evP] at hv
    obtain ⟨xv, h1, hv⟩ := ob_eq_some hv
    obtain ⟨hv, _⟩ := pure1_some hv
    refine no ?_
    unfold evUn at hv
    split at hv
    · exact scal_has hv k'
    · cases hv
  case convert src dst x =>
    simp only [evP] at hv
    obtain ⟨xv, h1, hv⟩ := ob_eq_some hv
    obtain ⟨hv, _⟩ := pure1_some hv
    refine no ?_
    unfold evConv at hv
    split at hv
    · obtain ⟨ts, _, hv⟩ := ob_eq_some hv
      obtain ⟨td, _, hv⟩ := ob_eq_some hv
      split at hv <;> cases hv <;> rfl
    · obtain ⟨ts, _, hv⟩ := ob_eq_some hv
      obtain ⟨td, _, hv⟩ := ob_eq_some hv
      split at hv
      · obtain ⟨n, _, hv⟩ := ob_eq_some hv
        split at hv <;> cases hv; rfl
      · cases hv
    · obtain ⟨ts, _, hv⟩ := ob_eq_some hv
      obtain ⟨td, _, hv⟩ := ob_eq_some hv
      split at hv
      · obtain ⟨te, _, hv⟩ := ob_eq_some hv
        split at hv <;> cases hv; rfl
      · cases hv
    · cases hv
  case makeFunc fn first caps =>
    simp only [evP] at hv
    obtain ⟨hv, _⟩ := pure1_some hv
    unfold evFunc at hv
    split at hv
    · obtain ⟨c, h1, hv⟩ := ob_eq_some hv
      cases hv
      exact .inr (capL_has h _ _ h1 hk)
    · cases hv
  case slice t x lo hi mx =>
    cases mx with
    | some _ => simp only [evP] at hv; cases hv
    | none =>
      simp only [evP] at hv
      obtain ⟨xv, _, hv⟩ := ob_eq_some hv
      obtain ⟨lv, _, hv⟩ := ob_eq_some hv
      obtain ⟨qv, _, hv⟩ := ob_eq_some hv
      obtain ⟨hv, _⟩ := pure1_some hv
      unfold evSlice at hv
      split at hv
      · obtain ⟨ty', _, hv⟩ := ob_eq_some hv
        split at hv
        · obtain ⟨te, _, hv⟩ := ob_eq_some hv
          obtain ⟨l, _, hv⟩ := ob_eq_some hv
          obtain ⟨n, _, hv⟩ := ob_eq_some hv
          split at hv <;> cases hv
          simp [V.has] at hk
        · cases hv
      · cases hv
  case makeSlice t l c =>
    simp only [evP] at hv
    obtain ⟨lv, _, hv⟩ := ob_eq_some hv
    obtain ⟨cv, _, hv⟩ := ob_eq_some hv
    unfold evMake at hv
    split at hv
    · obtain ⟨ty', _, hv⟩ := ob_eq_some hv
      split at hv
      · obtain ⟨te, _, hv⟩ := ob_eq_some hv
        split at hv <;> cases hv
        simp [V.has] at hk
        exact .inl ⟨hk.symm, by simp⟩
      · cases hv
    · cases hv
  case call c =>
    obtain ⟨cl, xs, ts⟩ := c
    cases cl with
    | invoke _ _ => cases hv
    | builtin bi =>
      simp only [evP] at hv
      obtain ⟨hv, _⟩ := pure1_some hv
      refine no ?_
      unfold evBuiltin at hv
      split at hv
      · obtain ⟨x, _, hv⟩ := ob_eq_some hv
        unfold evLen at hv
        split at hv
        · obtain ⟨ty, _, hv⟩ := ob_eq_some hv
          split at hv <;> cases hv; rfl
        · obtain ⟨ty, _, hv⟩ := ob_eq_some hv
          split at hv <;> cases hv; rfl
        · obtain ⟨ty, _, hv⟩ := ob_eq_some hv
          split at hv <;> cases hv; rfl
        · obtain ⟨ty, _, hv⟩ := ob_eq_some hv
          split at hv <;> cases hv; rfl
        · cases hv
      · obtain ⟨x, _, hv⟩ := ob_eq_some hv
        obtain ⟨y, _, hv⟩ := ob_eq_some hv
        unfold evMax at hv
        split at hv
        · cases hv; rfl
        · obtain ⟨z, _, hv⟩ := ob_eq_some hv; cases hv; rfl
        · cases hv
      · obtain ⟨x, _, hv⟩ := ob_eq_some hv
        obtain ⟨y, _, hv⟩ := ob_eq_some hv
        unfold evMin at hv
        split at hv
        · cases hv; rfl
        · obtain ⟨z, _, hv⟩ := ob_eq_some hv; cases hv; rfl
        · cases hv
      · cases hv
    | value f =>
      simp only [evP] at hv
      obtain ⟨fv, _, hv⟩ := ob_eq_some hv
      obtain ⟨g, _, hv⟩ := ob_eq_some hv
      obtain ⟨l, _, hv⟩ := ob_eq_some hv
      split at hv
      · cases hv
      obtain ⟨r, _, hv⟩ := ob_eq_some hv
      exact .inl (retV_has hv hk)
  all_goals (simp only [evP] at hv; cases hv)

theorem Rel.wfp {B : Nat} {φ0 : Nat → Option Nat} {w0 w : World} {a : Act} {φ : Nat → Option Nat} (r : Rel B w0 φ0 s a w φ) : WFp s := fun i _ hk => (r.tm i).live hk

/-- An operation that does not store or append: it adds what it finds. -/
theorem evO_quiet {d : Option Nat} {op : Op} (h : eff op = false) : evO E call d ty s op = ob (evP E call (d.getD 0) ty s op) fun v => some (s.app d v.1 v.2) := by
  unfold evO
  split
  · cases h
  · cases h
  · rename_i g xs ts
    have h : (muF g || rvF == some g) = false := h
    rw [Bool.or_eq_false_iff] at h
    simp only [h.1, plainS, h.2]
  · rfl

def dlt (E : Env) (call : Nat → List V → Option V) (ops : List Oper) (o : Oper) (s : St) : Option (V × Option Bk) :=
  match o.guard with
  | none => evP E call (o.dst.getD 0) o.type s o.op
  | some (j, w) =>
    match (ops[j]?).bind (·.dst) with
    | none => some (.undef, none)
    | some d => ob (gdB w (s.t d)) fun b => if b = true then evP E call (o.dst.getD 0) o.type s o.op else some (.undef, none)

theorem evG_dlt {ops : List Oper} {o : Oper} (h : eff o.op = false) : evG E call ops o s = ob (dlt E call ops o s) fun v => some (s.app o.dst v.1 v.2) := by
  cases hg : o.guard with
  | none => simp only [evG, dlt, hg]; exact evO_quiet h
  | some jw =>
    obtain ⟨j, w⟩ := jw
    cases hn : (ops[j]?).bind (·.dst) with
    | none => simp only [evG, dlt, hg, hn]; rfl
    | some d =>
      simp only [evG, dlt, hg, hn]
      cases gdB w (s.t d) with
      | none => rfl
      | some b =>
        cases b with
        | true => simp only [ob_some, evGd, if_true]; exact evO_quiet h
        | false => rfl

theorem looks_op {ops : Array Oper} {o : Oper} {i : Nat} (hx : .tmp i ∈ o.op.operands) : i ∈ o.looksAt ops := by
  simp only [Oper.looksAt, List.mem_append, List.mem_filterMap]
  exact .inl ⟨.tmp i, by simpa using hx, rfl⟩

theorem rd_operand {op : Op} {b : Nat} (h : b ∈ rdSlots op) : .tmp b ∈ op.operands := by
  unfold rdSlots at h
  split at h
  · simp at h; subst h; simp [Op.operands]
  · rw [mem_tmpsOf] at h
    simp only [List.mem_cons] at h
    simp only [Op.operands, Call.operands]
    rcases h with h | h
    · simp [h]
    · simp; right; simpa using h
  · cases h

theorem dlt_alike' {ops : Array Oper} {o : Oper} (h : ∀ i ∈ o.looksAt ops, s.t i = s'.t i) (hm : ∀ b, b ∈ rdSlots o.op → ∀ k, (s.t b).rk k = true → s.m k = s'.m k) : dlt E call ops.toList o s = dlt E call ops.toList o s' := by
  have h1 : evP E call (o.dst.getD 0) o.type s o.op = evP E call (o.dst.getD 0) o.type s' o.op :=
    evP_alike (fun x hx => ⟨fun i e => h i (looks_op (by rw [← e]; exact hx))⟩) hm
  unfold dlt
  split
  · exact h1
  · rename_i j w hg
    split
    · rfl
    · rename_i d hd
      have : d ∈ o.looksAt ops := by
        simp only [Oper.looksAt, hg, List.mem_append]
        right
        have : (ops[j]?).bind (·.dst) = some d := by simpa using hd
        simp [this]
      rw [h d this, h1]

theorem dlt_alike {ops : Array Oper} {o : Oper} (h : ∀ i ∈ o.looksAt ops, s.t i = s'.t i ∧ ∀ k, (s.t i).has k = true → s.m k = s'.m k) : dlt E call ops.toList o s = dlt E call ops.toList o s' :=
  dlt_alike' (fun i hi => (h i hi).1) fun b hb k hk => (h b (looks_op (rd_operand hb))).2 k (rk_has hk)

theorem dlt_live (h : WFp s) {ops : List Oper} {o : Oper} {v : V} {b : Option Bk} (hv : dlt E call ops o s = some (v, b)) {k' : Nat} (hk : v.has k' = true) : (k' = o.dst.getD 0 ∧ b ≠ none) ∨ s.m k' ≠ none := by
  unfold dlt at hv
  split at hv
  · exact evP_live h hv hk
  · split at hv
    · cases hv; cases hk
    · obtain ⟨c, _, hv⟩ := ob_eq_some hv
      split at hv
      · exact evP_live h hv hk
      · cases hv; cases hk

theorem upd_comm {α : Type} (f : Nat → α) {i j : Nat} (h : i ≠ j) (x y : α) : upd (upd f i x) j y = upd (upd f j y) i x := by
  funext q
  unfold upd
  by_cases h1 : q = j <;> by_cases h2 : q = i
  · exact absurd (h2.symm.trans h1) h
  · simp [h1, Ne.symm h]
  · simp [h2, h]
  · simp [h1, h2]

theorem app_clear {d : Nat} (h : s.m d = none) (v : V) (b : Option Bk) : s.app (some d) v b = ⟨upd s.t d v, match b with | none => s.m | some b => upd s.m d (some b)⟩ := by
  cases b with
  | none => rfl
  | some b => simp only [St.app, h, fresh]

theorem app_comm {d e : Option Nat} (hd : ∀ k, d = some k → s.m k = none) (he : ∀ k, e = some k → s.m k = none) (hne : ∀ k, d = some k → e ≠ some k) (v u : V) (b c : Option Bk) :
    (s.app d v b).app e u c = (s.app e u c).app d v b := by
  cases d with
  | none => rfl
  | some i =>
    cases e with
    | none => rfl
    | some j =>
      have hij : i ≠ j := fun q => hne i rfl (by rw [q])
      have h1 := hd i rfl
      have h2 := he j rfl
      rw [app_clear h1, app_clear h2]
      rw [app_clear (s := ⟨upd s.t i v, _⟩) (d := j) (by cases b <;> simp [h2, upd_ne _ _ (Ne.symm hij)])]
      rw [app_clear (s := ⟨upd s.t j u, _⟩) (d := i) (by cases c <;> simp [h1, upd_ne _ _ hij])]
      simp only [upd_comm s.t hij v u]
      congr 1
      cases b <;> cases c <;> first | rfl | exact upd_comm _ hij _ _

theorem app_wfp (h : WFp s) {d : Option Nat} (hd : ∀ k, d = some k → s.m k = none) {v : V} {b : Option Bk} (hv : ∀ k', v.has k' = true → (k' = d.getD 0 ∧ b ≠ none) ∨ s.m k' ≠ none) : WFp (s.app d v b) := by
  cases d with
  | none => exact h
  | some k =>
    rw [app_clear (hd k rfl)]
    intro i k' hk'
    simp only at hk' ⊢
    have keep : s.m k' ≠ none → (match b with | none => s.m | some b => upd s.m k (some b)) k' ≠ none := fun hne => by
      cases b with
      | none => exact hne
      | some b =>
        by_cases e : k' = k
        · subst e; simp [upd_same]
        · simpa [upd_ne _ _ e] using hne
    by_cases hi : i = k
    · subst hi
      rw [upd_same] at hk'
      rcases hv k' hk' with ⟨h1, h2⟩ | h1
      · simp at h1; subst h1
        cases b with
        | none => exact absurd rfl h2
        | some b => simp [upd_same]
      · exact keep h1
    · rw [upd_ne _ _ hi] at hk'
      exact keep (h i k' hk')
end
end Go.Proofs.YtjceimcepogkaaaGreatDoor.Ev
