/-
  Code and functions: what the evaluator answers is what the call comes to.
-/
import Derived.Test.YtjceimcepogkaaaGreatDoorEvX
namespace Go.Proofs.YtjceimcepogkaaaGreatDoor.Ev
open Go Go.RowKit

def okCode (P : Program) (dp : Nat → List (Nat × Nat)) (n : Nat) : Code → Bool
  | .region id ops dr => (ops.toList.all fun o => match o.dst with | none => true | some d => d < n) && (!dr || (okDraw (dp id) ops && P.follows .mixedOrders))
  | .seq a b => okCode P dp n a && okCode P dp n b
  | .cond _ a b => okCode P dp n a && okCode P dp n b
  | .block _ c => okCode P dp n c
  | .loop c => okCode P dp n c
  | .scope c => okCode P dp n c
  | _ => true

def toX : Ex → Exit
  | .normal => .normal
  | .exit id => .exit id
  | .goto l => .goto l
  | .ret => .ret

section
variable {P : Program} {E : Env} {call : Nat → List V → Option V} {B : Nat} {w0 : World} {φ0 : Nat → Option Nat} {s s' : St} {a : Act} {w w' : World} {φ φ' : Nat → Option Nat} {n : Nat}

theorem tab_map {α : Type} (d : α) (f : Nat → α) : ∀ (l : List Nat) (i : Nat), tab d (l.map fun i => (i, f i)) i = if i ∈ l then f i else d
  | [], i => by simp [tab]
  | k :: l, i => by
    simp only [List.map_cons, tab]
    by_cases h : i = k
    · subst h; simp
    · rw [if_neg h, tab_map d f l i]; simp [h]

theorem keysIn_has : ∀ {v : V} {l : List Nat}, v.keysIn l = true → ∀ k, v.has k = true → k ∈ l
  | .ptr k' _ _ _, l, h, k, hk => by simp [V.has] at hk; subst hk; simpa [V.keysIn] using h
  | .sl (.tg k') _ _, l, h, k, hk => by simp [V.has] at hk; subst hk; simpa [V.keysIn] using h
  | .ep (.tg k') _ _, l, h, k, hk => by simp [V.has] at hk; subst hk; simpa [V.keysIn] using h
  | .tcons x y, l, h, k, hk => by
    simp only [V.keysIn, Bool.and_eq_true] at h
    simp only [V.has, Bool.or_eq_true] at hk
    rcases hk with hk | hk
    · exact keysIn_has h.1 k hk
    · exact keysIn_has h.2 k hk
  | .sl .nil _ _, _, _, _, hk => by simp [V.has] at hk
  | .sl .ro _ _, _, _, _, hk => by simp [V.has] at hk
  | .ep .nil _ _, _, _, _, hk => by simp [V.has] at hk
  | .ep .ro _ _, _, _, _, hk => by simp [V.has] at hk
  | .d _, _, _, _, hk => by simp [V.has] at hk
  | .tnil, _, _, _, hk => by simp [V.has] at hk
  | .undef, _, _, _, hk => by simp [V.has] at hk
  | .junk, _, _, _, hk => by simp [V.has] at hk
  | .clos _ c, l, h, k, hk => keysIn_has (v := c) (by simpa [V.keysIn] using h) k (by simpa [V.has] using hk)
  | .ms _ _ _, l, h, k, hk => by simp [V.has] at hk; subst hk; simpa [V.keysIn] using h

theorem forget_sound {b : List Nat × List Nat} (r : Rel B w0 φ0 s a w φ) (h : s.forget b = some s') : Rel B w0 φ0 s' a w φ := by
  unfold St.forget at h
  split at h
  · rename_i hc
    cases h
    refine ⟨r.dfr, fun i => ?_, r.bel, r.base, fun k x hx => ?_, r.inj, r.lo, r.fr, fun k g x hk h0 hx => ?_⟩
    · simp only [tab_map]
      by_cases hi : i ∈ b.1
      · rw [if_pos hi]
        have hk := List.all_eq_true.1 hc i hi
        refine (r.tm i).keep ⟨fun k hk' => ⟨rfl, .inl ?_⟩, fun g _ _ => rfl, fun k g _ _ _ _ => rfl⟩
        rw [tab_map, if_pos (keysIn_has hk k hk')]
      · rw [if_neg hi]; trivial
    · simp only [tab_map] at hx
      split at hx
      · exact r.box k x hx
      · cases hx
    · simp only [tab_map] at hx
      split at hx
      · exact r.pin k g x hk h0 hx
      · cases hx
  · cases h

/-- The jumps within a scope. -/
def scopeQ (P : Program) (c : Code) (Q : Exit → Act → World → Prop) : Nat → Exit → Act → World → Prop
  | 0, _, _, _ => False
  | n + 1, .goto l, a, w =>
    match findLabel c l with
    | some rest => rest.wp P (scopeQ P c Q n) a w
    | none => Q (.goto l) a w
  | _ + 1, e, a, w => Q e a w

theorem wp_scope_fuel {c : Code} {Q : Exit → Act → World → Prop} (n : Nat) (h : c.wp P (scopeQ P c Q n) a w) : (Code.scope c).wp P Q a w := by
  intro b k cs
  have key : ∀ n (c' : Code) a w, c'.wp P (scopeQ P c Q n) a w → ∃ e a' w', Q e a' w' ∧ Arrives P (lone (b.at a (.code c' :: .inScope c :: k)) cs w) b k cs e a' w' := by
    intro n
    induction n with
    | zero =>
      intro c' a w h
      obtain ⟨e, a₁, w₁, hq, _⟩ := h b (.inScope c :: k) cs
      exact hq.elim
    | succ n ih =>
      intro c' a w h
      obtain ⟨e, a₁, w₁, hq, harr⟩ := h b (.inScope c :: k) cs
      cases e with
      | normal => exact ⟨.normal, a₁, w₁, hq, Steps.trans harr (.one step_inScope)⟩
      | exit id => exact ⟨.exit id, a₁, w₁, hq, fun k' hk => harr k' (by simp [exitTo, hk])⟩
      | goto l =>
        simp only [scopeQ] at hq
        cases hf : findLabel c l with
        | some rest =>
          rw [hf] at hq
          have hg : gotoIn l (.inScope c :: k) = some (.code rest :: .inScope c :: k) := by simp [gotoIn, hf]
          obtain ⟨e₂, a₂, w₂, hq₂, harr₂⟩ := ih rest a₁ w₁ hq
          exact ⟨e₂, a₂, w₂, hq₂, .of_steps (harr _ hg) harr₂⟩
        | none =>
          rw [hf] at hq
          exact ⟨.goto l, a₁, w₁, hq, fun k' hk => harr k' (by simp [gotoIn, hf, hk])⟩
      | ret => exact ⟨_, a₁, w₁, hq, harr⟩
      | panic ch => exact ⟨_, a₁, w₁, hq, harr⟩
      | outgrown => exact ⟨_, a₁, w₁, hq, harr⟩
  obtain ⟨e, a', w', hq, harr⟩ := key n c a w h
  exact ⟨e, a', w', hq, .of_steps (.one step_scope) harr⟩

theorem sq_some {r : Option (Ex × St)} {f : St → Option (Ex × St)} {e : Ex} {s' : St} (h : sq r f = some (e, s')) : (∃ s1, r = some (.normal, s1) ∧ f s1 = some (e, s')) ∨ (r = some (e, s') ∧ e ≠ .normal) := by
  unfold sq at h
  split at h
  · rename_i s1; exact .inl ⟨s1, rfl, h⟩
  · rename_i hn
    refine .inr ⟨h, fun e' => ?_⟩
    subst e'
    exact hn s' h

/-- What is shown of a piece of code that the evaluator ran. -/
def Sound (P : Program) (B : Nat) (w0 : World) (φ0 : Nat → Option Nat) (n : Nat) (c : Code) (s : St) (e : Ex) (s' : St) : Prop :=
  ∀ (Q : Exit → Act → World → Prop) (a : Act) (w : World) (φ : Nat → Option Nat), Rel B w0 φ0 s a w φ → a.tmps.size = n →
    (∀ a' w' φ', Rel B w0 φ0 s' a' w' φ' → a'.tmps.size = n → Q (toX e) a' w') → c.wp P Q a w

theorem okRegion {dp : Nat → List (Nat × Nat)} {id : Nat} {ops : Array Oper} {dr : Bool} (h : okCode P dp n (.region id ops dr) = true) : (∀ (j : Nat) (o : Oper) (d : Nat), ops[j]? = some o → o.dst = some d → d < n) ∧ (dr = true → okDraw (dp id) ops = true ∧ P.follows .mixedOrders = true) := by
  simp only [okCode, Bool.and_eq_true, Bool.or_eq_true, Bool.not_eq_true'] at h
  refine ⟨fun j o d ho hd => ?_, fun hdr => ?_⟩
  · have := List.all_eq_true.1 h.1 o (by simpa using Array.mem_of_getElem? ho)
    rw [hd] at this
    simpa using this
  · rcases h.2 with h2 | h2
    · rw [hdr] at h2; cases h2
    · exact h2

theorem Rel.drew1 (r : Rel B w0 φ0 s a w φ) : Rel B w0 φ0 s a { w with drawn := w.drawn + 1 } φ := r.grow ((Below.refl _ w).drew)

theorem iter_rounds {c : Code} {f : St → Option (Ex × St)} {e : Ex} (hf : ∀ s1 e1 s2, f s1 = some (e1, s2) → Sound P B w0 φ0 n c s1 e1 s2) :
    ∀ (m : Nat) (s s' : St), iter m f s = some (e, s') → ∀ (Q : Exit → Act → World → Prop) (a : Act) (w : World) (φ : Nat → Option Nat), Rel B w0 φ0 s a w φ → a.tmps.size = n →
      (∀ a' w' φ', Rel B w0 φ0 s' a' w' φ' → a'.tmps.size = n → Q (toX e) a' w') → Code.rounds P c Q m a w
  | 0, s, s', h => by simp [iter] at h
  | m + 1, s, s', h => by
    intro Q a w φ hr hn hQ
    simp only [iter] at h
    rw [rounds_succ]
    cases hs : f s with
    | none => rw [hs] at h; cases h
    | some r =>
      obtain ⟨e1, s1⟩ := r
      rw [hs] at h
      cases e1 with
      | normal =>
        simp only at h
        exact hf s .normal s1 hs _ a w φ hr hn fun a' w' φ' hr' hn' => iter_rounds hf m s1 s' h Q a' w' φ' hr' hn' hQ
      | exit id => cases h; exact hf s _ _ hs _ a w φ hr hn hQ
      | goto l => cases h; exact hf s _ _ hs _ a w φ hr hn hQ
      | ret => cases h; exact hf s _ _ hs _ a w φ hr hn hQ

theorem jumps_scope {c : Code} {f : Nat → St → Option (Ex × St)} {e : Ex} (hf : ∀ l rest, findLabel c l = some rest → ∀ s1 e1 s2, f l s1 = some (e1, s2) → Sound P B w0 φ0 n rest s1 e1 s2) :
    ∀ (m : Nat) (r : Option (Ex × St)) (s' : St), jumps m f (hasLab c) r = some (e, s') → ∃ e1 s1, r = some (e1, s1) ∧
      ∀ (Q : Exit → Act → World → Prop), (∀ a' w' φ', Rel B w0 φ0 s' a' w' φ' → a'.tmps.size = n → Q (toX e) a' w') →
        ∀ a w φ, Rel B w0 φ0 s1 a w φ → a.tmps.size = n → scopeQ P c Q m (toX e1) a w
  | 0, r, s', h => by simp [jumps] at h
  | m + 1, none, s', h => by simp [jumps] at h
  | m + 1, some (e1, s1), s', h => by
    refine ⟨e1, s1, rfl, fun Q hQ a w φ hr hn => ?_⟩
    cases e1 with
    | goto l =>
      simp only [jumps] at h
      by_cases hl : hasLab c l = true
      · rw [if_pos hl] at h
        obtain ⟨e2, s2, h2, h3⟩ := jumps_scope hf m _ s' h
        obtain ⟨rest, hrest⟩ := Option.isSome_iff_exists.1 hl
        simp only [toX, scopeQ, hrest]
        exact hf l rest hrest s1 e2 s2 h2 _ a w φ hr hn fun a' w' φ' hr' hn' => h3 Q hQ a' w' φ' hr' hn'
      · rw [if_neg hl] at h
        cases h
        have : findLabel c l = none := by simpa [hasLab] using hl
        simp only [toX, scopeQ, this]
        exact hQ a w φ hr hn
    | normal => simp only [jumps] at h; cases h; exact hQ a w φ hr hn
    | exit id => simp only [jumps] at h; cases h; exact hQ a w φ hr hn
    | ret => simp only [jumps] at h; cases h; exact hQ a w φ hr hn

theorem evC_sound (hE : EnvOK P E) (hcall : ∀ g l r, call g l = some r → ∀ w, Below B w0 w → CallX P w g l r) (fn lf : Nat) : ∀ (c : Code), okCode P (E.dp fn) n c = true →
    (∀ s e s', evC E call fn lf c s = some (e, s') → Sound P B w0 φ0 n c s e s') ∧
    (∀ l rest, findLabel c l = some rest → ∀ s e s', evL E call fn lf c l s = some (e, s') → Sound P B w0 φ0 n rest s e s')
  | .skip, _ => ⟨fun s e s' h Q a w φ hr hn hQ => by simp only [evC] at h; cases h; exact wp_skip (hQ a w φ hr hn), fun l rest hl => by simp [findLabel] at hl⟩
  | .exit id, _ => ⟨fun s e s' h Q a w φ hr hn hQ => by simp only [evC] at h; cases h; exact wp_exit (hQ a w φ hr hn), fun l rest hl => by simp [findLabel] at hl⟩
  | .goto id, _ => ⟨fun s e s' h Q a w φ hr hn hQ => by simp only [evC] at h; obtain ⟨s1, h1, h2⟩ := ob_eq_some h; cases h2; exact wp_goto (hQ a w φ (forget_sound hr h1) hn), fun l rest hl => by simp [findLabel] at hl⟩
  | .ret, _ => ⟨fun s e s' h Q a w φ hr hn hQ => by simp only [evC] at h; cases h; exact wp_ret (hQ a w φ hr hn), fun l rest hl => by simp [findLabel] at hl⟩
  | .rangeFunc _ _ _ _, _ => ⟨(fun s e s' h => by simp only [evC] at h; cases h), fun l rest hl => by simp [findLabel] at hl⟩
  | .refuse _, _ => ⟨(fun s e s' h => by simp only [evC] at h; cases h), fun l rest hl => by simp [findLabel] at hl⟩
  | .label id, _ => by
    refine ⟨fun s e s' h Q a w φ hr hn hQ => by simp only [evC] at h; cases h; exact wp_label (hQ a w φ hr hn), fun l rest hl s e s' h Q a w φ hr hn hQ => ?_⟩
    simp only [evL] at h
    split at h
    · rename_i hid
      cases h
      simp [findLabel, hid] at hl
      subst hl
      exact wp_skip (hQ a w φ hr hn)
    · cases h
  | .region id ops dr, hok => by
    refine ⟨fun s e s' h Q a w φ hr hn hQ => ?_, fun l rest hl => by simp [findLabel] at hl⟩
    obtain ⟨hdst, hdraw⟩ := okRegion hok
    simp only [evC] at h
    have hidx : ∀ s, evOps E call ops.toList ops.toList s = evIdx E call ops (List.range ops.size) s := fun s => by
      have := evIdx_ops (E := E) (call := call) ops ops.size 0 s (by omega)
      rw [List.range_eq_range']; simpa using this
    cases dr with
    | false =>
      simp only at h
      obtain ⟨sn, h1, h2⟩ := ob_eq_some h
      cases h2
      rw [hidx] at h1
      exact wp_region (evOps_sound hE hcall hdst hQ _ s a w φ hr hn h1)
    | true =>
      simp only at h
      split at h
      · rename_i hclear
        obtain ⟨sn, h1, h2⟩ := ob_eq_some h
        split at h2
        case isFalse => cases h2
        rename_i hkn
        cases h2
        rw [hidx] at h1
        obtain ⟨hd1, hd2⟩ := hdraw rfl
        refine wp_region_any hd2 (draw_any hE hcall hd1 hdst (fun p hp => List.all_eq_true.1 hkn p hp) hQ ops.size (List.range ops.size) _ s a _ φ (by simp) (by simp) (fun x => ?_) List.pairwise_lt_range (fun i o ho hL => ?_) hr.drew1 hn (fun i hi o ho d hd => ?_) h1)
        · simp only [List.mem_range]
          constructor
          · intro hx; exact ⟨hx, by simp [hx]⟩
          · exact fun hx => hx.1
        · have : i < ops.size := (Array.getElem?_eq_some_iff.1 ho).1
          simp [this] at hL
        · exact clearD_all hclear o (by simpa using Array.mem_of_getElem? ho) d hd
      · cases h
  | .seq x y, hok => by
    simp only [okCode, Bool.and_eq_true] at hok
    obtain ⟨hx1, hx2⟩ := evC_sound hE hcall fn lf x hok.1
    obtain ⟨hy1, hy2⟩ := evC_sound hE hcall fn lf y hok.2
    have both : ∀ (x' : Code) (r : Option (Ex × St)) (s : St), (∀ e s', r = some (e, s') → Sound P B w0 φ0 n x' s e s') → ∀ e s', sq r (fun s => evC E call fn lf y s) = some (e, s') → Sound P B w0 φ0 n (.seq x' y) s e s' := by
      intro x' r s hx' e s' h Q a w φ hr hn hQ
      refine wp_seq ?_
      rcases sq_some h with ⟨s1, h1, h2⟩ | ⟨h1, hne⟩
      · exact hx' .normal s1 h1 _ a w φ hr hn fun a' w' φ' hr' hn' => hy1 s1 e s' h2 Q a' w' φ' hr' hn' hQ
      · refine hx' e s' h1 _ a w φ hr hn fun a' w' φ' hr' hn' => ?_
        have := hQ a' w' φ' hr' hn'
        cases e with
        | normal => exact absurd rfl hne
        | _ => exact this
    refine ⟨fun s e s' h => ?_, fun l rest hl s e s' h => ?_⟩
    · simp only [evC] at h
      exact both x _ s (fun e s' h => hx1 s e s' h) e s' h
    · simp only [evL] at h
      simp only [findLabel] at hl
      cases hf : findLabel x l with
      | some rx =>
        rw [hf] at hl
        simp only at hl
        cases hl
        rw [if_pos (by simp [hasLab, hf])] at h
        exact both rx _ s (fun e s' h => hx2 l rx hf s e s' h) e s' h
      | none =>
        rw [hf] at hl
        simp only at hl
        rw [if_neg (by simp [hasLab, hf])] at h
        exact hy2 l rest hl s e s' h
  | .cond v x y, hok => by
    simp only [okCode, Bool.and_eq_true] at hok
    obtain ⟨hx1, _⟩ := evC_sound hE hcall fn lf x hok.1
    obtain ⟨hy1, _⟩ := evC_sound hE hcall fn lf y hok.2
    refine ⟨fun s e s' h Q a w φ hr hn hQ => ?_, fun l rest hl => by simp [findLabel] at hl⟩
    simp only [evC] at h
    unfold cd at h
    split at h
    · rename_i hv
      obtain ⟨_, hv⟩ := opd_sound hr hv
      exact wp_cond_true hv (hx1 s e s' h Q a w φ hr hn hQ)
    · rename_i hv
      obtain ⟨_, hv⟩ := opd_sound hr hv
      exact wp_cond_false hv (hy1 s e s' h Q a w φ hr hn hQ)
    · cases h
  | .block id c, hok => by
    obtain ⟨hc1, _⟩ := evC_sound hE hcall fn lf c hok
    refine ⟨fun s e s' h Q a w φ hr hn hQ => ?_, fun l rest hl => by simp [findLabel] at hl⟩
    simp only [evC] at h
    refine wp_block ?_
    cases hs : evC E call fn lf c s with
    | none => rw [hs] at h; cases h
    | some r =>
      obtain ⟨e1, s1⟩ := r
      rw [hs] at h
      cases e1 with
      | exit i =>
        simp only [bkx] at h
        by_cases hi : i = id
        · rw [if_pos hi] at h; cases h
          refine hc1 s _ _ hs _ a w φ hr hn fun a' w' φ' hr' hn' => ?_
          simp only [toX, Exit.inBlock, hi, if_true]
          exact hQ a' w' φ' hr' hn'
        · rw [if_neg hi] at h; cases h
          refine hc1 s _ _ hs _ a w φ hr hn fun a' w' φ' hr' hn' => ?_
          simp only [toX, Exit.inBlock, hi, if_false]
          exact hQ a' w' φ' hr' hn'
      | normal => simp only [bkx] at h; cases h; exact hc1 s _ _ hs _ a w φ hr hn hQ
      | goto l => simp only [bkx] at h; cases h; exact hc1 s _ _ hs _ a w φ hr hn hQ
      | ret => simp only [bkx] at h; cases h; exact hc1 s _ _ hs _ a w φ hr hn hQ
  | .loop c, hok => by
    obtain ⟨hc1, _⟩ := evC_sound hE hcall fn lf c hok
    refine ⟨fun s e s' h Q a w φ hr hn hQ => ?_, fun l rest hl => by simp [findLabel] at hl⟩
    simp only [evC] at h
    obtain ⟨s0, h1, h2⟩ := ob_eq_some h
    refine wp_loop_rounds lf (iter_rounds (fun s1 e1 s2 hf => ?_) lf s0 s' h2 Q a w φ (forget_sound hr h1) hn hQ)
    intro Q a w φ hr hn hQ
    unfold fgt at hf
    rcases sq_some hf with ⟨s3, h3, h4⟩ | ⟨h3, _⟩
    · obtain ⟨s4, h5, h6⟩ := ob_eq_some h4
      cases h6
      exact hc1 s1 .normal s3 h3 Q a w φ hr hn fun a' w' φ' hr' hn' => hQ a' w' φ' (forget_sound hr' h5) hn'
    · exact hc1 s1 e1 s2 h3 Q a w φ hr hn hQ
  | .scope c, hok => by
    obtain ⟨hc1, hc2⟩ := evC_sound hE hcall fn lf c hok
    refine ⟨fun s e s' h Q a w φ hr hn hQ => ?_, fun l rest hl => by simp [findLabel] at hl⟩
    simp only [evC] at h
    obtain ⟨e1, s1, h1, h2⟩ := jumps_scope (P := P) (B := B) (w0 := w0) (n := n) (fun l rest hl s1 e1 s2 hf => hc2 l rest hl s1 e1 s2 hf) lf _ s' h
    exact wp_scope_fuel lf (hc1 s e1 s1 h1 _ a w φ hr hn fun a' w' φ' hr' hn' => h2 Q hQ a' w' φ' hr' hn')
end
end Go.Proofs.YtjceimcepogkaaaGreatDoor.Ev
