/-
  Functions: what the evaluator answers is what the call comes to.
-/
import Derived.Test.YtjceimcepogkaaaGreatDoorEvY
namespace Go.Proofs.YtjceimcepogkaaaGreatDoor.Ev
open Go Go.RowKit

/-- Of each function that the evaluator may enter: its code is in order. -/
def FnsOK (P : Program) (E : Env) : Prop := ∀ f fn c, E.ok f = true → P.funcs[f]? = some fn → fn.body = some c → okCode P (E.dp f) fn.ntmps c = true ∧ (fn.name == "runtime.NumGoroutine") = false

section
variable {P : Program} {E : Env} {B : Nat} {w0 : World} {φ0 : Nat → Option Nat} {s s' : St} {a : Act} {w w' : World} {φ φ' : Nat → Option Nat} {n : Nat}

theorem tab_frame : ∀ (vs : List V) (k i : Nat), tab V.undef (frame k vs) i = if k ≤ i then (vs[i - k]?).getD .undef else .undef
  | [], k, i => by simp [frame, tab]
  | v :: vs, k, i => by
    simp only [frame, tab]
    by_cases h : i = k
    · subst h; simp
    · rw [if_neg h, tab_frame vs (k + 1) i]
      by_cases h2 : k ≤ i
      · rw [if_pos (by omega), if_pos h2]
        rw [show i - k = (i - (k + 1)) + 1 by omega]
        simp
      · rw [if_neg (by omega), if_neg h2]

theorem RA_at : ∀ {l : List V} {us : List Value}, RA w l us → l.length = us.length ∧ ∀ (i : Nat) v, l[i]? = some v → ∃ u, us[i]? = some u ∧ RA1 w v u
  | [], [], _ => ⟨rfl, fun i v h => by simp at h⟩
  | v :: l, u :: us, ⟨h1, h2⟩ => by
    obtain ⟨q1, q2⟩ := RA_at h2
    refine ⟨by simp [q1], fun i v' h => ?_⟩
    cases i with
    | zero => simp at h; subst h; exact ⟨u, rfl, h1⟩
    | succ i => exact q2 i v' (by simpa using h)
  | [], _ :: _, h => h.elim
  | _ :: _, [], h => h.elim

theorem RE_RT {sh : Sh} {x : D} {u : Value} {m : Nat → Option Bk} {φ : Nat → Option Nat} (h : RE w 0 w.heap.size sh x u) : RT0 w.heap.size m φ w (.ep .ro sh x) u := by
  obtain ⟨h1, h2, g, off, cs, T, fr, _, h3, h4, h5, h6⟩ := h
  exact ⟨h1, h2, g, off, cs, T, fr, h3, h4, h5, h6⟩
theorem RAC_RTL {m : Nat → Option Bk} {φ : Nat → Option Nat} : ∀ {c : V} {l : List Value}, RAC w c l → RTL w.heap.size m φ w c l
  | .tnil, l, h => h
  | .tcons (.ep .ro sh x) y, l, h => by
    obtain ⟨u, us, rfl, h1, h2⟩ := h
    exact ⟨u, us, rfl, RE_RT h1, RAC_RTL h2⟩
  | .tcons (.ep .nil _ _) _, _, h => h.elim
  | .tcons (.ep (.tg _) _ _) _, _, h => h.elim
  | .tcons (.d x) y, l, h => by
    obtain ⟨u, us, rfl, h1, h2⟩ := h
    exact ⟨u, us, rfl, h1, RAC_RTL h2⟩
  | .tcons (.ptr _ _ _ _) _, _, h => h.elim
  | .tcons (.sl _ _ _) _, _, h => h.elim
  | .tcons .tnil _, _, h => h.elim
  | .tcons (.tcons _ _) _, _, h => h.elim
  | .tcons .undef _, _, h => h.elim
  | .tcons .junk _, _, h => h.elim
  | .tcons (.clos _ _) _, _, h => h.elim
  | .tcons (.ms _ _ _) _, _, h => h.elim
  | .d _, _, h => h.elim
  | .ptr _ _ _ _, _, h => h.elim
  | .sl _ _ _, _, h => h.elim
  | .ep _ _ _, _, h => h.elim
  | .undef, _, h => h.elim
  | .junk, _, h => h.elim
  | .clos _ _, _, h => h.elim
  | .ms _ _ _, _, h => h.elim

theorem RA1_RT {v : V} {u : Value} (h : RA1 w v u) (m : Nat → Option Bk) (φ : Nat → Option Nat) : RT w.heap.size m φ w v u := by
  cases v with
  | d x => exact h
  | sl ow sh es =>
    cases ow with
    | ro => exact h
    | nil => exact h.elim
    | tg k => exact h.elim
  | ep ow sh x =>
    cases ow with
    | ro => exact RE_RT (m := m) (φ := φ) h
    | nil => exact h.elim
    | tg k => exact h.elim
  | clos g c =>
    obtain ⟨cs, e, h⟩ := h
    exact ⟨cs, e, RAC_RTL h⟩
  | _ => exact h.elim

theorem enter_rel {l : List V} {us : List Value} (h : RA w l us) (nt : Nat) : Rel w.heap.size w (fun _ => none) (enter l) { tmps := us.toArray ++ Array.replicate (nt - us.toArray.size) undef, defers := [] } w (fun _ => none) := by
  obtain ⟨hlen, hat⟩ := RA_at h
  refine ⟨rfl, fun i => ?_, Below.refl _ _, Nat.le_refl _, (fun k x hx => by cases hx), (fun k k' g hg => by cases hg), (fun k g hg => by cases hg), Fr.refl _ _, (fun k g x _ h0 _ => by cases h0)⟩
  simp only [enter, tab_frame, Nat.zero_le, if_true, Nat.sub_zero]
  by_cases hi : i < l.length
  · rw [List.getElem?_eq_getElem hi]
    obtain ⟨u, hu, hr⟩ := hat i l[i] (List.getElem?_eq_getElem hi)
    have : (us.toArray ++ Array.replicate (nt - us.toArray.size) undef).getD i undef = u := by
      simp [Array.getElem?_append_left (show i < us.toArray.size by simp; omega), hu]
    rw [this]
    exact RA1_RT hr _ _
  · rw [List.getElem?_eq_none (by omega)]
    have : (us.toArray ++ Array.replicate (nt - us.toArray.size) undef).getD i undef = undef := by
      have h1 : us.toArray.size ≤ i := by simp; omega
      simp only [Array.getD_eq_getD_getElem?, Array.getElem?_append_right h1]
      simp only [Array.getElem?_replicate]
      split <;> rfl
    rw [this]
    exact rfl

theorem resV_sound (rl : Rel B w0 φ0 s a w φ) {v r : V} {u : Value} (hv : RT B s.m φ w v u) (h : resV s.m v = some r) : RR0 w B r u := by
  unfold resV at h
  split at h
  · cases h; exact hv
  · cases h
    obtain ⟨rfl, rfl⟩ := hv
    exact ⟨(fun x hx => by cases hx), 0, World.ownsRow_nil w B 0 _⟩
  · cases h
    exact hv.2.1
  · cases h
    obtain ⟨cs, rfl, h2⟩ := hv
    obtain rfl : cs = #[] := Array.ext' h2
    rfl
  · rename_i g k sh p t
    obtain ⟨b, hm, h⟩ := ob_eq_some h
    cases b with
    | row => cases h
    | box x =>
      cases h
      obtain ⟨cs, rfl, q, us, e, hq, hus⟩ := hv
      obtain rfl : us = [] := hus
      obtain rfl : cs = #[q] := Array.ext' (by simpa using e)
      obtain ⟨h1, h2, h3, h4, h5, g0, T, h6, rfl, h8, h9⟩ := box_at rl hm hq
      have hlo := rl.lo k g0 h6
      refine ⟨_, rfl, h4, h5, g0, _, _, T, (0, 0), hlo.1, hlo.2, rfl, h8, fun j c hj => ?_⟩
      have := h9 j c hj
      rwa [cell_of_row w g0 _ _ T (0, 0) h8] at this
  · cases h

theorem evLoad_addr {t : Nat} {x v : V} {u : Value} {m : Nat → Option Bk} (hx : RT B m φ w x u) (h : evLoad E m t x = some v) : ∃ ad, u = .pointer (some ad) := by
  unfold evLoad at h
  split at h
  · obtain ⟨_, g, _, _, _, _, rfl⟩ := hx; exact ⟨_, rfl⟩
  · rename_i o sh x
    cases o with
    | nil => exact hx.elim
    | ro => obtain ⟨_, _, g, off, cs, T, fr, _, rfl, _⟩ := hx; exact ⟨_, rfl⟩
    | tg k => obtain ⟨_, _, g, off, cs, T, fr, _, _, rfl, _⟩ := hx; exact ⟨_, rfl⟩
  · cases h

def resS (tmps : Array Value) : ResultVar → Sem Value
  | .tmp t => pure (tmps.getD t undef)
  | .cell x t => do loadVar t (← asAddr (tmps.getD x undef))

theorem res1_sound (hE : EnvOK P E) (r : Rel B w0 φ0 s a w φ) {rv : ResultVar} {v : V} (h : res1 E s rv = some v) :
    ∃ u, (resS a.tmps rv).run P w = .ok u w ∧ RR0 w B v u := by
  cases rv with
  | tmp t => exact ⟨_, rfl, resV_sound r (r.tm t) h⟩
  | cell x t =>
    simp only [res1] at h
    obtain ⟨y, rfl, hw, hrun⟩ := evLoad_sound hE r (r.tm x) h
    obtain ⟨ad, hu⟩ := evLoad_addr (r.tm x) h
    refine ⟨y.val, ?_, hw, rfl⟩
    simp only [resS]
    rw [hu] at hrun ⊢
    simp only [Instr.loadAt, Instr.sureAddr, Sem.run_bind, Sem.run_pure, Result.andThen_ok, asAddr] at hrun ⊢
    exact hrun

theorem resL_sound (hE : EnvOK P E) (r : Rel B w0 φ0 s a w φ) : ∀ {rs : List ResultVar} {v : V}, resL E s rs = some v →
    ∃ us : List Value, (rs.mapM (resS a.tmps)).run P w = .ok us w ∧ us.length = rs.length ∧ RRL w B v us
  | [], v, h => by simp only [resL] at h; cases h; exact ⟨[], rfl, rfl, rfl⟩
  | rv :: rs, v, h => by
    simp only [resL] at h
    obtain ⟨x, h1, h⟩ := ob_eq_some h
    obtain ⟨y, h2, h⟩ := ob_eq_some h
    cases h
    obtain ⟨u, q1, q2⟩ := res1_sound hE r h1
    obtain ⟨us, p1, p2, p3⟩ := resL_sound hE r h2
    refine ⟨u :: us, ?_, by simp [p2], u, us, rfl, q2, p3⟩
    simp only [List.mapM_cons, Sem.run_bind, q1, Result.andThen_ok, p1, Sem.run_pure]

theorem resF_sound (hE : EnvOK P E) (r : Rel B w0 φ0 s a w φ) {fn : Func} {v : V} (h : resF E s fn.results.toList = some v) : ∃ u, (results fn a.tmps).run P w = .ok u w ∧ RR w B v u := by
  have key : ∀ us : List Value, (fn.results.toList.mapM (resS a.tmps)).run P w = .ok us w →
      (results fn a.tmps).run P w = .ok (if h : us.length = 1 then us[0] else .tuple us.toArray) w := by
    intro us hus
    have e : results fn a.tmps = (do let vs ← fn.results.mapM (resS a.tmps); pure (if h : vs.size = 1 then vs[0] else .tuple vs)) := by
      unfold results
      congr 1
    rw [e, Array.mapM_eq_mapM_toList]
    simp only [Sem.run_bind, Sem.run_map, hus, Result.andThen_ok, Sem.run_pure]
    simp
  unfold resF at h
  split at h
  · rename_i rv hrs
    obtain ⟨u, q1, q2⟩ := res1_sound hE r h
    have := key [u] (by rw [hrs]; simp only [List.mapM_cons, List.mapM_nil, Sem.run_bind, q1, Result.andThen_ok, Sem.run_pure])
    refine ⟨u, by simpa using this, ?_⟩
    cases v with
    | d x => exact q2
    | sl ow sh es => exact q2
    | clos g c => exact q2
    | _ => exact q2.elim
  · rename_i rs hne
    obtain ⟨us, p1, p2, p3⟩ := resL_sound hE r h
    have hl : us.length ≠ 1 := fun e => by
      rw [p2] at e
      obtain ⟨x, hx⟩ := List.length_eq_one_iff.1 e
      exact hne x hx
    have := key us p1
    rw [dif_neg hl] at this
    refine ⟨_, this, ?_⟩
    cases v with
    | tnil => rw [show us = [] from p3]; rfl
    | tcons x y => exact ⟨_, rfl, by simpa using p3⟩
    | _ => exact p3.elim

/-- A function's body, run. -/
theorem body_at (hE : EnvOK P E) {f : Nat} {fn : Func} {c : Code} (hfn : P.funcs[f]? = some fn) (hc : fn.body = some c) (hcode : okCode P (E.dp f) fn.ntmps c = true) (hname : (fn.name == "runtime.NumGoroutine") = false) {l : List V} (hlen : l.length ≤ fn.ntmps)
    {call : Nat → List V → Option V} {w : World} (hcall : ∀ g l r, call g l = some r → ∀ w', Below w.heap.size w w' → CallX P w' g l r) {r : V} (h : resX E fn.results.toList (evC E call f loopFuel c (enter l)) = some r) : CallAt P w f l r := by
  have fin : ∀ (e : Ex) (s : St), evC E call f loopFuel c (enter l) = some (e, s) → (e = .normal ∨ e = .ret) → resF E s fn.results.toList = some r → CallAt P w f l r := by
    intro e s hev hex hres
    refine ⟨⟨fn, hfn, by rw [hc]; rfl, hname⟩, fun vs hra => ?_⟩
    have hl := (RA_at hra).1
    refine calls_of_wp hfn hc ?_
    refine (evC_sound (w0 := w) (φ0 := fun _ => none) (B := w.heap.size) (n := fn.ntmps) hE hcall f loopFuel c hcode).1 (enter l) e s hev _ _ w _ (enter_rel hra fn.ntmps) (by simp; omega) fun a' w' φ' hr hn => ?_
    obtain ⟨u, q1, q2⟩ := resF_sound hE hr hres
    rcases hex with rfl | rfl
    · exact ⟨hr.dfr, u, q1, u, rfl, hr.bel, q2⟩
    · exact ⟨hr.dfr, u, q1, u, rfl, hr.bel, q2⟩
  cases hev : evC E call f loopFuel c (enter l) with
  | none => rw [hev] at h; cases h
  | some p =>
    obtain ⟨e, s⟩ := p
    rw [hev] at h
    cases e with
    | normal => exact fin _ s hev (.inl rfl) h
    | ret => exact fin _ s hev (.inr rfl) h
    | exit id => cases h
    | goto l => cases h
theorem body_ok (hE : EnvOK P E) {f : Nat} {fn : Func} {c : Code} (hfn : P.funcs[f]? = some fn) (hc : fn.body = some c) (hcode : okCode P (E.dp f) fn.ntmps c = true) (hname : (fn.name == "runtime.NumGoroutine") = false) {l : List V} (hlen : l.length ≤ fn.ntmps)
    {call : Nat → List V → Option V} (hcall : ∀ g l r, call g l = some r → CallOK P g l r) (hmu : ∀ g l, mutq g l = false) {r : V} (h : resX E fn.results.toList (evC E call f loopFuel c (enter l)) = some r) : CallOK P f l r :=
  ⟨⟨fn, hfn, by rw [hc]; rfl, hname⟩, fun w => (body_at hE hfn hc hcode hname hlen (w := w) (fun g l r h w' _ => .plain (hmu g l) (.inl ((hcall g l r h).at w'))) h).run⟩
theorem enterM_rel {gb cap n nt : Nat} {T : TypeId} {rest : List Value} {f : Nat → D} {u : Sh} {l : List V} {us : List Value} (h : RA w l us) (hp : plainL l = true) (hw : (D.arr n u f).WF) (hh : w.heap[gb]? = some (.cells ((D.arr n u f).flat ++ rest).toArray T (0, 0))) (hlen : l.length + 1 ≤ nt) :
    Rel 0 w (fun k => if k = nt then some gb else none) (enterM nt n u (.arr n u f) l) { tmps := (.slice (some ⟨gb, 0, none⟩) n cap :: us).toArray ++ Array.replicate (nt - (.slice (some ⟨gb, 0, none⟩) n cap :: us).toArray.size) undef, defers := [] } w (fun k => if k = nt then some gb else none) := by
  obtain ⟨hl, hat⟩ := RA_at h
  have hsz : ((.slice (some ⟨gb, 0, none⟩) n cap :: us).toArray ++ Array.replicate (nt - (.slice (some ⟨gb, 0, none⟩) n cap :: us).toArray.size) undef).size = nt := by simp; omega
  have htl : tl w gb (D.arr n u f).flat.length = rest := by rw [tl_of hh]; simp
  have mK : (enterM nt n u (.arr n u f) l).m nt = some (.box (.arr n u f)) := by simp [enterM, tab]
  have mN : ∀ k, k ≠ nt → (enterM nt n u (.arr n u f) l).m k = none := fun k hk => by simp [enterM, tab, hk]
  refine ⟨rfl, fun i => ?_, Below.refl _ _, Nat.zero_le _, fun k x hx => ?_, fun k k' g hg hg' => ?_, fun k g hg => ?_, Fr.refl _ _, fun k g x _ h0 _ => h0⟩
  · show RT 0 _ _ w (tab V.undef ((0, .ms nt n u) :: frame 1 l) i) _
    simp only [tab]
    by_cases h0 : i = 0
    · subst h0
      rw [if_pos rfl]
      refine ⟨_, gb, cap, mK, rfl, if_pos rfl, ?_⟩
      have e0 : ((.slice (some ⟨gb, 0, none⟩) n cap :: us).toArray ++ Array.replicate (nt - (.slice (some ⟨gb, 0, none⟩) n cap :: us).toArray.size) undef)[0]? = some (.slice (some ⟨gb, 0, none⟩) n cap) := by
        rw [Array.getElem?_append_left (by simp)]; rfl
      rw [Array.getD_eq_getD_getElem?, e0]; rfl
    · rw [if_neg h0, tab_frame]
      rw [if_pos (by omega)]
      by_cases hi : i - 1 < l.length
      · rw [List.getElem?_eq_getElem hi]
        obtain ⟨u', hu, hr⟩ := hat (i - 1) l[i - 1] (List.getElem?_eq_getElem hi)
        have e1 : ((.slice (some ⟨gb, 0, none⟩) n cap :: us).toArray ++ Array.replicate (nt - (.slice (some ⟨gb, 0, none⟩) n cap :: us).toArray.size) undef).getD i undef = u' := by
          obtain ⟨j, rfl⟩ : ∃ j, i = j + 1 := ⟨i - 1, by omega⟩
          simp only [Nat.add_sub_cancel] at hi hu
          simp [Array.getElem?_append_left (show j + 1 < (Value.slice (some ⟨gb, 0, none⟩) n cap :: us).toArray.size by simp; omega), hu]
        rw [e1]
        have hd : ∀ (l : List V) (j : Nat) v, plainL l = true → l[j]? = some v → ∃ x, v = .d x := by
          intro l
          induction l with
          | nil => intro j v _ hv; simp at hv
          | cons a l ih =>
            intro j v hp hv
            cases a with
            | d x =>
              cases j with
              | zero => simp at hv; exact ⟨x, hv.symm⟩
              | succ j => exact ih j v hp (by simpa using hv)
            | _ => cases hp
        obtain ⟨x, hx⟩ := hd l (i - 1) _ hp (List.getElem?_eq_getElem hi)
        rw [Option.getD_some, hx]
        rw [hx] at hr
        exact hr
      · rw [List.getElem?_eq_none (by omega)]
        have e1 : ((.slice (some ⟨gb, 0, none⟩) n cap :: us).toArray ++ Array.replicate (nt - (.slice (some ⟨gb, 0, none⟩) n cap :: us).toArray.size) undef).getD i undef = undef := by
          have h1 : (Value.slice (some ⟨gb, 0, none⟩) n cap :: us).toArray.size ≤ i := by simp; omega
          simp only [Array.getD_eq_getD_getElem?, Array.getElem?_append_right h1]
          simp only [Array.getElem?_replicate]
          split <;> rfl
        rw [e1]
        exact rfl
  · by_cases hk : k = nt
    · subst hk
      rw [mK] at hx; cases hx
      exact ⟨hw, gb, T, if_pos rfl, by rw [htl]; exact hh⟩
    · rw [mN k hk] at hx; cases hx
  · have e1 : k = nt := by
      by_cases hk : k = nt
      · exact hk
      · rw [if_neg hk] at hg; cases hg
    have e2 : k' = nt := by
      by_cases hk : k' = nt
      · exact hk
      · rw [if_neg hk] at hg'; cases hg'
    rw [e1, e2]
  · by_cases hk : k = nt
    · rw [if_pos hk] at hg; cases hg; exact ⟨Nat.zero_le _, lt_of_heap hh⟩
    · rw [if_neg hk] at hg; cases hg

/-- A function's body, run, that writes through its first argument. -/
theorem body_mut (hE : EnvOK P E) {f : Nat} {fn : Func} {c : Code} (hfn : P.funcs[f]? = some fn) (hc : fn.body = some c) (hcode : okCode P (E.dp f) fn.ntmps c = true) (hname : (fn.name == "runtime.NumGoroutine") = false) {m : Nat} {u : Sh} {g : Nat → D} {l : List V} (hlen : l.length + 1 ≤ fn.ntmps)
    {call : Nat → List V → Option V} {w : World} (hcall : ∀ g l r, call g l = some r → ∀ w', Below 0 w w' → CallX P w' g l r) (hrs : fn.results.size = 0) {r : V} (h : resM fn.ntmps (evC E call f loopFuel c (enterM fn.ntmps m u (.arr m u g) l)) = some r) :
    MutAt P w f (.d (.arr m u g) :: l) r := by
  intro n' u' f' l' x' e hr
  cases e
  subst hr
  refine ⟨⟨fn, hfn, by rw [hc]; rfl, hname⟩, fun gb cap T rest vs hra hp hw sh hh => ?_⟩
  have hl := (RA_at hra).1
  have htl : tl w gb (D.arr m u g).flat.length = rest := by rw [tl_of hh]; simp
  have fin : ∀ (e : Ex) (s : St), evC E call f loopFuel c (enterM fn.ntmps m u (.arr m u g) l) = some (e, s) → (e = .normal ∨ e = .ret) → resB fn.ntmps s = some (.d x') →
      Calls P f (.slice (some ⟨gb, 0, none⟩) m cap :: vs).toArray w fun e w' => e = .returned (.tuple #[]) ∧ x'.WF ∧ (∃ T', w'.heap[gb]? = some (.cells (x'.flat ++ rest).toArray T' (0, 0))) ∧ GB w w' (some gb) := by
    intro e s hev hex hres
    refine calls_of_wp hfn hc ?_
    refine (evC_sound (w0 := w) (φ0 := fun k => if k = fn.ntmps then some gb else none) (B := 0) (n := fn.ntmps) hE hcall f loopFuel c hcode).1 (enterM fn.ntmps m u (.arr m u g) l) e s hev _ _ w _ (enterM_rel hra hp hw hh hlen) (by simp; omega) fun a' w' φ' hr hn => ?_
    obtain ⟨b, hb, hres⟩ := ob_eq_some hres
    cases b with
    | row => cases hres
    | box y =>
      cases hres
      obtain ⟨q1, g', T', q2, q3⟩ := hr.box _ _ hb
      have hpin := hr.pin fn.ntmps gb _ (by rw [hn]; exact Nat.le_refl _) (if_pos rfl) hb
      rw [hpin] at q2; cases q2
      have hfl : x'.flat.length = (D.arr m u g).flat.length := by rw [x'.flat_length q1, sh, D.flat_length _ hw]; rfl
      rw [hfl, htl] at q3
      have hres2 : (results fn a'.tmps).run P w' = .ok (.tuple #[]) w' := by
        have hnil : fn.results.toList = [] := by rw [Array.eq_empty_of_size_eq_zero hrs]
        obtain ⟨u', e1, e2⟩ := resF_sound (v := .tnil) hE hr (show resF E s fn.results.toList = some .tnil by rw [hnil]; rfl)
        obtain rfl : u' = .tuple #[] := e2
        exact e1
      have G : GB w w' (some gb) := ⟨hr.bel.os, hr.bel.tape, hr.bel.output, hr.bel.size, fun k hk hne => hr.fr.keep k hk (fun k' e => by
        by_cases hk' : k' = fn.ntmps
        · rw [if_pos hk'] at e; exact hne (by rw [e])
        · rw [if_neg hk'] at e; cases e), hr.bel.drawn⟩
      rcases hex with rfl | rfl
      · exact ⟨hr.dfr, .tuple #[], hres2, rfl, q1, ⟨T', q3⟩, G⟩
      · exact ⟨hr.dfr, .tuple #[], hres2, rfl, q1, ⟨T', q3⟩, G⟩
  cases hev : evC E call f loopFuel c (enterM fn.ntmps m u (.arr m u g) l) with
  | none => rw [hev] at h; cases h
  | some p =>
    obtain ⟨e, s⟩ := p
    rw [hev] at h
    cases e with
    | normal => exact fin _ s hev (.inl rfl) h
    | ret => exact fin _ s hev (.inr rfl) h
    | exit id => cases h
    | goto l => cases h
/-- THE EVALUATOR IS SOUND. -/
theorem evF_sound (hE : EnvOK P E) (hF : FnsOK P E) {ext : Nat → List V → Option V} (hext : ∀ f l r, ext f l = some r → CallOK P f l r) (k f : Nat) (l : List V) (r : V) (h : evF P E ext k f l = some r) (hmu : ∀ f l, mutq f l = false := by exact noMut' rfl) : CallOK P f l r := by
  induction k generalizing f l r with
  | zero => simp [evF] at h
  | succ k ih =>
    simp only [evF] at h
    cases he : ext f l with
    | some r' => rw [he] at h; cases h; exact hext f l r he
    | none =>
      rw [he] at h
      simp only at h
      obtain ⟨fn, hfn, h⟩ := ob_eq_some h
      obtain ⟨c, hc, h⟩ := ob_eq_some h
      split at h
      · rename_i hcond
        obtain ⟨hcode, hname⟩ := hF f fn c hcond.1 hfn hc
        rw [runF_no (hmu f l)] at h
        exact body_ok hE hfn hc hcode hname hcond.2 ih hmu h
      · cases h
/-- .. in the worlds of which something holds that code leaves. -/
theorem evF_soundJ (hE : EnvOK P E) (hF : FnsOK P E) {J : World → Prop} {B0 : Nat} (hJ : ∀ w w' B, B0 ≤ B → Below B w w' → J w → J w') {ext : Nat → List V → Option V} (hext : ∀ f l r, ext f l = some r → ∀ w, J w → B0 ≤ w.heap.size → CallAt P w f l r)
    (k f : Nat) (l : List V) (r : V) (h : evF P E ext k f l = some r) (w : World) (hw : J w) (hB : B0 ≤ w.heap.size) (hmu : ∀ f l, mutq f l = false := by exact noMut' rfl) : CallAt P w f l r := by
  induction k generalizing f l r w with
  | zero => simp [evF] at h
  | succ k ih =>
    simp only [evF] at h
    cases he : ext f l with
    | some r' => rw [he] at h; cases h; exact hext f l r he w hw hB
    | none =>
      rw [he] at h
      simp only at h
      obtain ⟨fn, hfn, h⟩ := ob_eq_some h
      obtain ⟨c, hc, h⟩ := ob_eq_some h
      split at h
      · rename_i hcond
        obtain ⟨hcode, hname⟩ := hF f fn c hcond.1 hfn hc
        rw [runF_no (hmu f l)] at h
        exact body_at hE hfn hc hcode hname hcond.2 (fun g l r h w' hb => .plain (hmu g l) (.inl (ih g l r h w' (hJ w w' _ hB hb hw) (Nat.le_trans hB hb.size)))) h
      · cases h
/-- .. where entries without a body may be answered too, and functions write through their first argument. -/
theorem evF_soundX (hE : EnvOK P E) (hF : FnsOK P E) {ext : Nat → List V → Option V} (hext : ∀ f l r, ext f l = some r → ∀ w, CallX P w f l r) :
    ∀ (k f : Nat) (l : List V) (r : V), evF P E ext k f l = some r → (∀ w, CallX P w f l r) ∧ (ext f l = none → mutq f l = false → CallOK P f l r)
  | 0, f, l, r, h => by simp [evF] at h
  | k + 1, f, l, r, h => by
    simp only [evF] at h
    cases he : ext f l with
    | some r' => rw [he] at h; cases h; exact ⟨hext f l r he, fun h => by cases h⟩
    | none =>
      rw [he] at h
      simp only at h
      obtain ⟨fn, hfn, h⟩ := ob_eq_some h
      obtain ⟨c, hc, h⟩ := ob_eq_some h
      split at h
      · rename_i hcond
        obtain ⟨hcode, hname⟩ := hF f fn c hcond.1 hfn hc
        cases hm : mutq f l with
        | false =>
          rw [runF_no hm] at h
          have hok : CallOK P f l r := ⟨⟨fn, hfn, by rw [hc]; rfl, hname⟩, fun w => (body_at hE hfn hc hcode hname hcond.2 (w := w) (fun g l r h w' _ => (evF_soundX hE hF hext k g l r h).1 w') h).run⟩
          exact ⟨fun w => .plain hm (.inl (hok.at w)), fun _ _ => hok⟩
        | true =>
          refine ⟨fun w => ⟨fun e => (by rw [hm] at e; cases e), fun _ => ?_⟩, fun _ e => (by cases e)⟩
          unfold mutq at hm
          rw [Bool.and_eq_true] at hm
          obtain ⟨h1, h2⟩ := hm
          unfold isArr at h2
          split at h2
          · rename_i m u g l'
            simp only [runF, h1] at h
            split at h
            · rename_i hq
              exact body_mut hE hfn hc hcode hname (by simpa using hcond.2) (fun g l r h w' _ => (evF_soundX hE hF hext k g l r h).1 w') hq.1 h
            · cases h
          · cases h2
      · cases h
end
end Go.Proofs.YtjceimcepogkaaaGreatDoor.Ev
