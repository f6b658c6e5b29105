/-
  A region that draws its order; code; functions: what the evaluator answers is what the call comes to.
-/
import Derived.Test.YtjceimcepogkaaaGreatDoorEvW
namespace Go.Proofs.YtjceimcepogkaaaGreatDoor.Ev
open Go Go.RowKit

section
variable {P : Program} {E : Env} {call : Nat → List V → Option V} {B : Nat} {w0 : World} {φ0 : Nat → Option Nat} {s s' : St} {a : Act} {w w' : World} {φ φ' : Nat → Option Nat} {n : Nat}

theorem getD_bool {l : Array Bool} {i : Nat} (h : i < l.size) (x y : Bool) : l.getD i x = l.getD i y := by simp [h]

theorem draw_any (hE : EnvOK P E) (hcall : ∀ g l r, call g l = some r → ∀ w, Below B w0 w → CallX P w g l r) {ops : Array Oper} {dp : List (Nat × Nat)} (hok : okDraw dp ops = true) (hdst : ∀ (j : Nat) (o : Oper) (d : Nat), ops[j]? = some o → o.dst = some d → d < n)
    {Q : Exit → Act → World → Prop} {sn : St} (hkn : ∀ p ∈ dp, (sn.t p.1).keyNe (sn.t p.2) = true) (hQ : ∀ a' w' φ', Rel B w0 φ0 sn a' w' φ' → a'.tmps.size = n → Q .normal a' w') :
    ∀ (len : Nat) (R : List Nat) (listed : Array Bool) (s : St) (a : Act) (w : World) (φ : Nat → Option Nat), R.length = len → listed.size = ops.size → (∀ x, x ∈ R ↔ x < ops.size ∧ listed.getD x true = false) → R.Pairwise (· < ·) →
      (∀ (i : Nat) (o : Oper), ops[i]? = some o → listed.getD i false = true → ∀ e ∈ o.after.toList, Region.binds .any e = true → listed.getD e.on false = true) →
      Rel B w0 φ0 s a w φ → a.tmps.size = n → Clear ops R s → evIdx E call ops R s = some sn → wpAny P .any ops Q len listed a w := by
  have rows : ∀ i, i < ops.size → rowOK dp ops (clo ops.toList []) i = true := fun i hi => List.all_eq_true.1 hok i (List.mem_range.2 hi)
  intro len
  induction len with
  | zero =>
    intro R listed s a w φ hlen hsz hR _ _ hr hn _ hev
    have hR0 : R = [] := List.eq_nil_of_length_eq_zero hlen
    subst hR0
    simp only [evIdx] at hev
    cases hev
    refine ⟨?_, hQ a w φ hr hn⟩
    unfold Region.ready
    rw [List.filter_eq_nil_iff]
    intro i hi hc
    have hi := List.mem_range.1 hi
    simp only [Bool.and_eq_true, Bool.not_eq_true'] at hc
    have := (hR i).2 ⟨hi, hc.1⟩
    cases this
  | succ len ih =>
    intro R listed s a w φ hlen hsz hR hpw hcl hr hn hclr hev
    have listed_of : ∀ x, x < ops.size → x ∉ R → listed.getD x false = true := fun x hx hxR => by
      have h1 : listed.getD x true ≠ false := fun h => hxR ((hR x).2 ⟨hx, h⟩)
      rw [getD_bool (by omega) false true]
      simpa using h1
    refine ⟨fun hready => ?_, fun i hi => ?_⟩
    · exfalso
      cases R with
      | nil => simp at hlen
      | cons r0 R' =>
        obtain ⟨h0, h0'⟩ := (hR r0).1 (by simp)
        have hmem : r0 ∈ Region.ready .any ops listed := by
          unfold Region.ready
          rw [List.mem_filter]
          refine ⟨List.mem_range.2 h0, ?_⟩
          have hro := rows r0 h0
          unfold rowOK at hro
          have hg : ops[r0]? = some ops[r0] := Array.getElem?_eq_getElem h0
          rw [hg] at hro
          simp only [Bool.and_eq_true] at hro
          simp only [hg, h0', Option.map_some, Option.getD_some, Bool.not_false, Bool.true_and]
          rw [Array.all_eq_true_iff_forall_mem]
          intro e he
          have hlt := List.all_eq_true.1 hro.1 e (by simpa using he)
          by_cases hb : Region.binds .any e = true
          · simp only [hb, Bool.not_true, Bool.false_or, decide_eq_true_eq] at hlt ⊢
            refine listed_of _ (by omega) fun hm => ?_
            rcases List.mem_cons.1 hm with h | h
            · omega
            · have := (List.pairwise_cons.1 hpw).1 _ h; omega
          · simp [hb]
        rw [hready] at hmem; cases hmem
    · unfold Region.ready at hi
      rw [List.mem_filter] at hi
      obtain ⟨hi1, hi2⟩ := hi
      have hi1 := List.mem_range.1 hi1
      have hg : ops[i]? = some ops[i] := Array.getElem?_eq_getElem hi1
      simp only [hg, Option.map_some, Option.getD_some, Bool.and_eq_true, Bool.not_eq_true'] at hi2
      obtain ⟨hun, hedges⟩ := hi2
      have hed : ∀ e ∈ ops[i].after.toList, Region.binds .any e = true → listed.getD e.on false = true := fun e he hb => by
        have := (Array.all_eq_true_iff_forall_mem.1 hedges) e (by simpa using he)
        simpa [hb] using this
      have hiR : i ∈ R := (hR i).2 ⟨hi1, hun⟩
      obtain ⟨R1, R2, rfl⟩ := List.append_of_mem hiR
      have hpw' := List.pairwise_append.1 hpw
      have hnd : (R1 ++ i :: R2).Nodup := hpw.imp (fun h => Nat.ne_of_lt h)
      have unlisted : ∀ x, x ∈ R1 ++ i :: R2 → listed.getD x false = false := fun x hx => by
        have := (hR x).1 hx
        rw [getD_bool (by omega) false true]; exact this.2
      have pair : ∀ j k : Nat, j < k → k < ops.size → ∀ x y, ops[j]? = some x → ops[k]? = some y → pairOK dp ops (clo ops.toList []) k j y x = true := fun j k hjk hk x y hx hy => by
        have := rows k hk
        unfold rowOK at this
        rw [hy] at this
        simp only [Bool.and_eq_true] at this
        have := List.all_eq_true.1 this.2 j (List.mem_range.2 hjk)
        rw [hx] at this
        exact this
      have dstne : ∀ j k : Nat, j < k → k < ops.size → ∀ x y, ops[j]? = some x → ops[k]? = some y → ∀ d, x.dst = some d → y.dst ≠ some d := fun j k hjk hk x y hx hy d hd e => by
        have := pair j k hjk hk x y hx hy
        unfold pairOK at this
        simp only [Bool.and_eq_true] at this
        have h1 := this.1
        rw [e, hd] at h1
        simp at h1
      have sz : ∀ x, x ∈ R1 ++ i :: R2 → x < ops.size := fun x hx => ((hR x).1 hx).1
      have nolist : ∀ q, q ∈ R1 ++ i :: R2 → ((clo ops.toList []).getD i 0).testBit q = true → False := fun q hq hp => by
        have := clo_in (L := fun i => listed.getD i false = true) ops.toList (fun i' o' ho' hL => hcl i' o' (by simpa using ho') hL) ops.toList [] 0 rfl rfl (fun i' o' hi' => by omega) i ops[i] (by simp [hi1]) hed q hp
        rw [unlisted q hq] at this; cases this
      obtain ⟨s1, h1, h2⟩ := move_front hg R1 R2 s sn (fun j hj x hx => by
          have hji : j < i := hpw'.2.2 j hj i (by simp)
          have hp := pair j i hji hi1 x ops[i] hx hg
          unfold pairOK at hp
          simp only [Bool.and_eq_true, Bool.or_eq_true, Bool.not_eq_true'] at hp
          obtain ⟨_, hp⟩ := hp
          rcases hp with (hp | ⟨⟨q1, q2⟩, q3⟩) | hp
          · exact (nolist j (by simp [hj]) hp).elim
          · exact ⟨q1, q3, dstne j i hji hi1 x ops[i] hx hg, .inl q2⟩
          · unfold early at hp
            split at hp
            · rename_i ty a z hop hgd
              simp only [Bool.and_eq_true, Bool.not_eq_true'] at hp
              obtain ⟨⟨⟨⟨q1, q2⟩, q3⟩, q4⟩, q5⟩ := hp
              have q4' : ∀ (q : Nat) (z : Oper), ops[q]? = some z → isApp z.op = false ∧ (z.dst ≠ some a ∨ ((clo ops.toList []).getD i 0).testBit q = true) := fun q z hz => by
                have := List.all_eq_true.1 q4 q (List.mem_range.2 (Array.getElem?_eq_some_iff.1 hz).1)
                rw [hz] at this
                simpa using this
              refine ⟨q2, q3, dstne j i hji hi1 x ops[i] hx hg, .inr ⟨ty, a, z, hop, hgd, by simpa using q1, fun q z hz => (q4' q z hz).1, fun q hq z hz => ?_, fun b e => ?_⟩⟩
              · rcases (q4' q z hz).2 with h | h
                · exact h
                · exact (nolist q hq h).elim
              · have q5 := List.all_eq_true.1 q5 b e
                simp only [Bool.and_eq_true] at q5
                refine ⟨hkn (a, b) (by simpa using q5.1), fun q _ hjq z hz => ?_⟩
                have := List.all_eq_true.1 q5.2 q (List.mem_range.2 (Array.getElem?_eq_some_iff.1 hz).1)
                rw [hz] at this
                simp only [Bool.or_eq_true, decide_eq_true_eq, bne_iff_ne] at this
                rcases this with h | h
                · omega
                · exact h
            · cases hp)
        (fun j hj x hx k hk z hz hjk d hd => by
          rcases Nat.lt_or_gt_of_ne hjk with h | h
          · exact dstne j k h (sz k hk) x z hx hz d hd
          · intro e
            exact dstne k j h (sz j hj) z x hz hx d e hd) hpw hr.wfp hclr hev
      have hmem : ∀ x, x ∈ R1 ++ R2 ↔ x ∈ R1 ++ i :: R2 ∧ x ≠ i := fun x => by
        have hn1 : i ∉ R1 := fun h => (List.nodup_append.1 hnd).2.2 i h i (by simp) rfl
        have hn2 : i ∉ R2 := (List.nodup_cons.1 (List.nodup_append.1 hnd).2.1).1
        constructor
        · intro h
          refine ⟨by simp only [List.mem_append, List.mem_cons] at h ⊢; rcases h with h | h; exact .inl h; exact .inr (.inr h), fun e => ?_⟩
          subst e
          rcases List.mem_append.1 h with h | h
          · exact hn1 h
          · exact hn2 h
        · rintro ⟨h, hne⟩
          simp only [List.mem_append, List.mem_cons] at h ⊢
          rcases h with h | h | h
          · exact .inl h
          · exact absurd h hne
          · exact .inr h
      have next : ∀ a' w' φ', Rel B w0 φ0 s1 a' w' φ' → a'.tmps.size = a.tmps.size → wpAny P .any ops Q len (listed.setIfInBounds i true) a' w' := fun a' w' φ' hr' hn' => by
        refine ih (R1 ++ R2) _ s1 a' w' φ' (by simp at hlen ⊢; omega) (by simpa using hsz) (fun x => ?_) (hpw.sublist ((List.sublist_cons_self i R2).append_left R1)) (fun i' o' ho' hL e he hb => ?_) hr' (by rw [hn', hn]) (fun q hq o ho d hd => ?_) h2
        · rw [hmem, hR]
          by_cases hx : x = i
          · subst hx; simp [hsz, hi1]
          · simp only [hx, ne_eq, not_false_eq_true, and_true]
            rw [show (listed.setIfInBounds i true).getD x true = listed.getD x true by simp [Array.getElem?_setIfInBounds_ne (Ne.symm hx)]]
        · have key : ∀ q, listed.getD q false = true → (listed.setIfInBounds i true).getD q false = true := fun q hq => by
            by_cases hqi : q = i
            · subst hqi; simp [hsz, hi1]
            · rw [show (listed.setIfInBounds i true).getD q false = listed.getD q false by simp [Array.getElem?_setIfInBounds_ne (Ne.symm hqi)]]; exact hq
          by_cases hii : i' = i
          · subst hii
            rw [hg] at ho'; cases ho'
            exact key _ (hed e he hb)
          · rw [show (listed.setIfInBounds i true).getD i' false = listed.getD i' false by simp [Array.getElem?_setIfInBounds_ne (Ne.symm hii)]] at hL
            exact key _ (hcl i' o' ho' hL e he hb)
        · have hq' := (hmem q).1 hq
          refine evG_m h1 (fun e => ?_) (hclr q hq'.1 o ho d hd)
          rcases Nat.lt_or_gt_of_ne hq'.2 with h | h
          · exact dstne q i h hi1 o ops[i] ho hg d hd e
          · exact dstne i q h (sz q hq'.1) ops[i] o hg ho d e hd
      have hsound := evG_sound (o := ops[i]) (ops := ops) (Q := Q) hE hcall hr (fun d hd => by rw [hn]; exact hdst i _ d hg hd) (fun j d hjd => by
        rw [hn]
        cases hj : ops.toList[j]? with
        | none => rw [hj] at hjd; cases hjd
        | some o => rw [hj] at hjd; exact hdst j o d (by simpa using hj) hjd) h1 next
      unfold wpOp
      rw [hg]
      simp only
      split at hsound
      · rename_i hw; rw [if_pos hw]; exact .inl hsound
      · rename_i hw; rw [if_neg hw]; exact hsound

/-- The operations in the order of the text. -/
theorem evOps_sound (hE : EnvOK P E) (hcall : ∀ g l r, call g l = some r → ∀ w, Below B w0 w → CallX P w g l r) {ops : Array Oper} (hdst : ∀ (j : Nat) (o : Oper) (d : Nat), ops[j]? = some o → o.dst = some d → d < n)
    {Q : Exit → Act → World → Prop} {sn : St} (hQ : ∀ a' w' φ', Rel B w0 φ0 sn a' w' φ' → a'.tmps.size = n → Q .normal a' w') :
    ∀ (R : List Nat) (s : St) (a : Act) (w : World) (φ : Nat → Option Nat), Rel B w0 φ0 s a w φ → a.tmps.size = n → evIdx E call ops R s = some sn → wpOps P ops Q R a w
  | [], s, a, w, φ, hr, hn, hev => by simp only [evIdx] at hev; cases hev; exact hQ a w φ hr hn
  | i :: R, s, a, w, φ, hr, hn, hev => by
    simp only [evIdx] at hev
    simp only [wpOps]
    cases hi : ops[i]? with
    | none => rw [hi] at hev; exact evOps_sound hE hcall hdst hQ R s a w φ hr hn hev
    | some o =>
      rw [hi] at hev
      simp only at hev ⊢
      obtain ⟨s1, h1, h2⟩ := ob_eq_some hev
      have hsound := evG_sound (o := o) (ops := ops) (Q := Q) (K := wpOps P ops Q R) hE hcall hr (fun d hd => by rw [hn]; exact hdst i o d hi hd) (fun j d hjd => by
        rw [hn]
        cases hj : ops.toList[j]? with
        | none => rw [hj] at hjd; cases hjd
        | some o => rw [hj] at hjd; exact hdst j o d (by simpa using hj) hjd) h1 (fun a' w' φ' hr' hn' => evOps_sound hE hcall hdst hQ R s1 a' w' φ' hr' (by rw [hn', hn]) h2)
      split at hsound
      · rename_i hw; rw [if_pos hw]; exact .inl hsound
      · rename_i hw; rw [if_neg hw]; exact hsound
end
end Go.Proofs.YtjceimcepogkaaaGreatDoor.Ev
