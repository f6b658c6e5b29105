/-
  Appends; one operation; the operations of a region, in the order of the text.
-/
import Derived.Test.YthpccjgpbcginaaEvQ
namespace Go.Proofs.Ythpccjgpbcginaa.Ev
open Go Go.RowKit

section
variable {P : Program} {E : Env} {B : Nat} {w0 : World} {s s' : St} {a : Act} {w w' : World} {φ φ' : Nat → Option Nat} {o : Oper} {m : Nat → Option Bk} {k : Nat}

theorem sl_read {ow : Own} {sh : Sh} {es : List D} {u : Value} (h : RT B m φ w (.sl ow sh es) u) :
    Good sh es ∧ ((es = [] ∧ u = .slice none 0 0) ∨ ∃ g off cap, u = .slice (some ⟨g, off, none⟩) es.length cap ∧ ∀ j v, (flats es)[j]? = some v → w.cell? ⟨g, off + j, none⟩ = some v) := by
  cases ow with
  | nil => obtain ⟨rfl, rfl⟩ := h; exact ⟨(fun x hx => by cases hx), .inl ⟨rfl, rfl⟩⟩
  | ro =>
    obtain ⟨hg, h⟩ := h
    refine ⟨hg, ?_⟩
    rcases h with h | ⟨g, off, cap, cs, T, fr, _, q2, q3, q4⟩
    · exact .inl h
    · exact .inr ⟨g, off, cap, q2, cells_at q3 q4⟩
  | tg k =>
    obtain ⟨_, ⟨hg, e, ho⟩, _⟩ := h
    refine ⟨hg, ?_⟩
    rcases ho.2 with ⟨h1, h2⟩ | ⟨g, cap, cur, q1, _, q3, _, _, _, q4⟩
    · exact .inl ⟨List.eq_nil_of_length_eq_zero h2, h1⟩
    · exact .inr ⟨g, 0, cap, q1, cells_at q3 fun j v hj => by
        rw [← q4, List.getElem?_take] at hj
        split at hj
        · simpa using hj
        · cases hj⟩

theorem flats_append (es es' : List D) : flats (es ++ es') = flats es ++ flats es' := by simp [flats]

theorem flats_one {sh : Sh} {es : List D} (h : Good sh es) : ∀ u ∈ flats es, u.oneCell' = true := fun u hu => by
  simp only [flats, List.mem_flatMap] at hu
  obtain ⟨x, hx, hu⟩ := hu
  exact x.flat_one (h x hx).1 u hu

theorem RT.kill {v : V} {u : Value} (h : RT B m φ w v u) (k : Nat) : RT B m φ w (v.kill k) u := by
  unfold V.kill
  split
  · trivial
  · exact h

theorem grown_below {lo : Nat} {row : Option Nat} (hg : w.grownBy w' row) (hr : ∀ k, row = some k → lo ≤ k) (hlo : lo ≤ w.heap.size) : Below lo w w' :=
  (Below.refl lo w).grown hg hlo hr

theorem evAppend_sound (hE : EnvOK P E) (r : Rel B w0 s a w φ) (hk : k < a.tmps.size) {t t' ty : Nat} {x y : V} {u1 u2 : Value} (hx : RT B s.m φ w x u1) (hy : RT B s.m φ w y u2)
    (h : evAppend E s k t t' x y = some s') : ∃ u w' φ', (Builtin.append_ #[t, t'] ty #[u1, u2]).run P w = .ok u w' ∧ Rel B w0 s' (a.put (some k) u) w' φ' := by
  unfold evAppend at h
  split at h
  · rename_i ow sh es ow' sh' es'
    obtain ⟨tt, ht, h⟩ := ob_eq_some h
    split at h
    · rename_i e hkd
      obtain ⟨te, hte, h⟩ := ob_eq_some h
      by_cases hc : t = t' ∧ te.sh = sh ∧ sh' = sh ∧ 0 < sh.size
      · rw [if_pos hc] at h
        have hF := h
        clear h
        obtain ⟨rfl, rfl, rfl, hpos⟩ := hc
        by_cases hc2 : (es.length + es'.length) * te.bytes ≤ 140737488355328 ∧ es.length + es'.length ≤ maxLen
        · rw [if_pos hc2] at hF
          obtain ⟨hbytes, hmax⟩ := hc2
          have hkd' := (hE t tt ht).kd
          rw [hkd] at hkd'
          simp only [KdOK] at hkd'
          have hT := hE e te hte
          obtain ⟨i, hi, hz, hby⟩ := hT.zero
          obtain ⟨i', d, hi', hsz, _, _⟩ := hT.lies
          rw [hi] at hi'; cases hi'
          have hzs : te.zero.val.cells.size = te.sh.size := by rw [D.val_cells _ hT.zwf.1]; simp [te.zero.flat_length hT.zwf.1, hT.zwf.2]
          obtain ⟨hg1, hr1⟩ := sl_read hx
          obtain ⟨hg2, hr2⟩ := sl_read hy
          have hgood : Good te.sh (es ++ es') := fun q hq => by
            rcases List.mem_append.1 hq with hq | hq
            · exact hg1 q hq
            · exact hg2 q hq
          have run : ∀ (lo : Nat) (e' : TypeId), w.ownsRow lo e' te.sh.size u1 es.length (flats es) → lo ≤ w.heap.size →
              ∃ v' w' e'', (Builtin.append_ #[t, t] ty #[u1, u2]).run P w = .ok v' w' ∧ w'.ownsRow lo e'' te.sh.size v' (es ++ es').length (flats (es ++ es')) ∧ w.grownBy w' u1.ownBlock ∧
                ∀ g, v'.ownBlock = some g → u1.ownBlock = some g ∨ w.heap.size ≤ g := by
            intro lo e' hown hlo
            rcases hr2 with ⟨rfl, rfl⟩ | ⟨g, off, cap, rfl, hcells⟩
            · refine ⟨u1, w, e', ?_, by simpa using hown, ⟨rfl, rfl, rfl, Nat.le_refl _, fun _ _ _ => rfl⟩, fun g hg => .inl hg⟩
              rcases hown.2 with ⟨rfl, _⟩ | ⟨g, cap, cur, rfl, _, _, hnc, _⟩
              · exact run_append_nothing t ty e i hkd' hi none 0 0 (Nat.le_refl _)
              · exact run_append_nothing t ty e i hkd' hi _ _ _ hnc
            · obtain ⟨v', w', e'', q1, q2, q3, q4⟩ := run_append_own' (P := P) (w := w) lo t ty e i te.zero.val te.sh.size te.bytes hkd' hi hz hsz hby hzs hpos u1 es.length (flats es) e' hown
                ⟨g, off, none⟩ es'.length cap (flats es') (flats_length hg2) (fun j v hj => by rw [Addr.add_mid]; exact hcells j v hj) (flats_one hg2) hmax hbytes hlo
              exact ⟨v', w', e'', q1, by rw [flats_append, List.length_append]; exact q2, q3, q4⟩
          cases ow with
          | ro => cases hF
          | nil =>
            cases hF
            obtain ⟨rfl, rfl⟩ := hx
            obtain ⟨v', w', e'', q1, q2, q3, _⟩ := run w.heap.size 0 (World.ownsRow_nil w _ 0 _) (Nat.le_refl _)
            have hb : Below w.heap.size w w' := grown_below q3 (fun k hk => by simp [Value.ownBlock] at hk) (Nat.le_refl _)
            obtain ⟨φ'', hrel⟩ := r.app (some k) (newRowAt (k := k) (m := s.m) φ hb r.base ⟨hgood, e'', q2⟩) (fun k' hk' => by cases hk'; exact hk)
            exact ⟨v', w', φ'', q1, hrel⟩
          | tg k' =>
            cases hF
            obtain ⟨hm, ⟨_, e', hown⟩, hφ⟩ := hx
            obtain ⟨v', w', e'', q1, q2, q3, q4⟩ := run B e' hown r.base
            have hb : Below B w w' := grown_below q3 (fun k hk => (ownsRow_lt hown hk).1) r.base
            have oth : ∀ k2 g, k2 ≠ k' → φ k2 = some g → w'.heap[g]? = w.heap[g]? := fun k2 g hne hg => by
              refine q3.block g (r.lo k2 g hg).2 fun e => ?_
              exact hne (r.inj _ _ _ hg (hφ g e.symm))
            refine ⟨v', w', fun i => if i = k' then v'.ownBlock else φ i, q1, ?_, fun j => ?_, r.bel.trans hb, Nat.le_trans r.base q3.size, fun k2 x2 hx2 => ?_, fun k1 k2 g e1 e2 => ?_, fun k2 g hg => ?_⟩
            · rw [put_dfr]; exact r.dfr
            · rw [put_get a k v' hk]
              by_cases hj : j = k
              · subst hj
                simp only [upd_same, if_true]
                exact ⟨hm, ⟨hgood, e'', q2⟩, fun g hg => by simpa using hg⟩
              · simp only [upd_ne _ _ hj, hj, if_false]
                unfold V.kill
                cases hh : (s.t j).has k' with
                | true => trivial
                | false =>
                  simp only [Bool.false_eq_true, if_false]
                  refine (r.tm j).keep ⟨fun k2 hk2 => ?_, fun g hg hg' => hb.block g hg, fun k2 g hk2 _ hg _ => ?_⟩
                  · have : k2 ≠ k' := fun e => by rw [e, hh] at hk2; cases hk2
                    exact ⟨if_neg this, .inl rfl⟩
                  · have : k2 ≠ k' := fun e => by rw [e, hh] at hk2; cases hk2
                    exact oth k2 g this hg
            · have hne : k2 ≠ k' := fun e => by subst e; simp only at hx2; rw [hm] at hx2; cases hx2
              obtain ⟨p1, g, T, p2, p3⟩ := r.box k2 x2 hx2
              exact ⟨p1, g, T, by simpa [hne] using p2, (oth k2 g hne p2).trans p3⟩
            · by_cases c1 : k1 = k' <;> by_cases c2 : k2 = k'
              · rw [c1, c2]
              · subst c1
                simp [c2] at e1 e2
                rcases q4 g e1 with h4 | h4
                · exact r.inj _ _ _ (hφ g h4) e2
                · have := (r.lo k2 g e2).2; omega
              · subst c2
                simp [c1] at e1 e2
                rcases q4 g e2 with h4 | h4
                · exact r.inj _ _ _ e1 (hφ g h4)
                · have := (r.lo k1 g e1).2; omega
              · simp [c1] at e1; simp [c2] at e2
                exact r.inj _ _ _ e1 e2
            · by_cases c : k2 = k'
              · subst c
                simp at hg
                exact ownsRow_lt q2 hg
              · simp [c] at hg
                exact ⟨(r.lo k2 g hg).1, Nat.lt_of_lt_of_le (r.lo k2 g hg).2 q3.size⟩
        · rw [if_neg hc2] at hF; cases hF
      · rw [if_neg hc] at h; cases h
    · cases h
  · cases h

/-- One operation. -/
theorem evO_sound (hE : EnvOK P E) {call : Nat → List V → Option V} (hcall : ∀ g l r, call g l = some r → CallOK P g l r) (r : Rel B w0 s a w φ) (hd : ∀ d, o.dst = some d → d < a.tmps.size)
    (h : evO E call o.dst o.type s o.op = some s') {K : Act → World → Prop} {Q : Exit → Act → World → Prop}
    (hK : ∀ a' w' φ', Rel B w0 s' a' w' φ' → a'.tmps.size = a.tmps.size → K a' w') : o.wp P a w K Q := by
  obtain ⟨dst, op, ty, pos, after, guard⟩ := o
  simp only at h hd
  unfold evO at h
  split at h
  · rename_i t x y
    split at h
    · obtain ⟨xv, h1, h⟩ := ob_eq_some h
      obtain ⟨yv, h2, h⟩ := ob_eq_some h
      obtain ⟨w', hrun, hrel⟩ := evStore_sound hE r (opd_sound r h1) (opd_sound r h2) h
      unfold Oper.wp
      have : (execOp a.eval ⟨none, .store t x y, ty, pos, after, guard⟩).run P w = .ok .skip w' := by simp [execOp, hrun]
      rw [this, Oper.upon_skip]
      exact hK _ _ _ hrel rfl
    · cases h
  · rename_i xs ts
    split at h
    · rename_i x y t t' k hxs hts
      obtain ⟨xv, h1, h⟩ := ob_eq_some h
      obtain ⟨yv, h2, h⟩ := ob_eq_some h
      obtain ⟨u, w', φ', hrun, hrel⟩ := evAppend_sound (ty := ty) hE r (hd k rfl) (opd_sound r h1) (opd_sound r h2) h
      unfold Oper.wp
      obtain ⟨xs⟩ := xs
      obtain ⟨ts⟩ := ts
      simp only at hxs hts
      subst hxs
      subst hts
      have : (execOp a.eval ⟨some k, .call ⟨.builtin .append, #[x, y], #[t, t']⟩, ty, pos, after, guard⟩).run P w = .ok (.value u) w' := by
        simp [execOp, resolve, invoke, builtin, hrun]
      rw [this, Oper.upon_value]
      exact hK _ _ _ hrel (put_size _ _ _)
    · cases h
  · obtain ⟨⟨v, b⟩, h1, h⟩ := ob_eq_some h
    cases h
    refine evP_sound (o := ⟨dst, op, ty, pos, after, guard⟩) hE hcall r h1 K Q fun u w' hs => ?_
    obtain ⟨φ', hs⟩ := hs
    obtain ⟨φ'', hrel⟩ := r.app dst hs hd
    exact hK _ _ _ hrel (put_size _ _ _)

theorem skip_rel (r : Rel B w0 s a w φ) (d : Option Nat) (hd : ∀ k, d = some k → k < a.tmps.size) : ∃ φ', Rel B w0 (s.app d .undef none) (a.put d undef) w φ' := by
  have : StepOK B s.m φ w (d.getD 0) .undef none undef w φ := stay rfl
  exact r.app d this hd

def boolOf : Value → Option Bool
  | .bool c => some c
  | _ => none

theorem gdB_sound {wt : Bool} {v : V} {u : Value} {b : Bool} (hv : RT B m φ w v u) (h : gdB wt v = some b) : (boolOf u == some wt) = b := by
  unfold gdB at h
  split at h
  · obtain ⟨_, rfl⟩ := hv; cases h; simp [D.val, boolOf]
  · cases h; rw [show u = undef from hv]; rfl
  · cases h

theorem evG_sound (hE : EnvOK P E) {call : Nat → List V → Option V} (hcall : ∀ g l r, call g l = some r → CallOK P g l r) (r : Rel B w0 s a w φ) (hd : ∀ d, o.dst = some d → d < a.tmps.size)
    {ops : Array Oper} (hops : ∀ (j d : Nat), (ops.toList[j]?).bind (·.dst) = some d → d < a.tmps.size)
    (h : evG E call ops.toList o s = some s') {K : Act → World → Prop} {Q : Exit → Act → World → Prop}
    (hK : ∀ a' w' φ', Rel B w0 s' a' w' φ' → a'.tmps.size = a.tmps.size → K a' w') :
    if Region.wanted o (yielded ops a.tmps) then o.wp P a w K Q else K (a.put o.dst undef) w := by
  unfold evG at h
  split at h
  · rename_i hg
    have : Region.wanted o (yielded ops a.tmps) = true := by unfold Region.wanted; rw [hg]
    rw [if_pos this]
    exact evO_sound hE hcall r hd h hK
  · rename_i j wt hg
    have hw : Region.wanted o (yielded ops a.tmps) = (yielded ops a.tmps j == some wt) := by unfold Region.wanted; rw [hg]
    split at h
    · rename_i hn
      have hy : yielded ops a.tmps j = none := by
        unfold yielded
        have : (ops[j]?).bind (·.dst) = none := by simpa using hn
        rw [this]; rfl
      rw [if_neg (by rw [hw, hy]; simp)]
      cases h
      obtain ⟨φ', hrel⟩ := skip_rel r o.dst hd
      exact hK _ _ _ hrel (put_size _ _ _)
    · rename_i d hn
      obtain ⟨b, h1, h⟩ := ob_eq_some h
      have hlt := hops j d hn
      have hy : yielded ops a.tmps j = boolOf (a.tmps.getD d undef) := by
        unfold yielded
        have : (ops[j]?).bind (·.dst) = some d := by simpa using hn
        rw [this]
        have e : a.tmps[d]? = some (a.tmps.getD d undef) := by simp [hlt]
        simp only [Option.bind_some, e]
        cases a.tmps.getD d undef <;> rfl
      have hb := gdB_sound (r.tm d) h1
      rw [hw, hy, hb]
      cases b with
      | true => simp only [if_true]; exact evO_sound hE hcall r hd h hK
      | false =>
        simp only [Bool.false_eq_true, if_false]
        simp only [evGd] at h
        cases h
        obtain ⟨φ', hrel⟩ := skip_rel r o.dst hd
        exact hK _ _ _ hrel (put_size _ _ _)
end
end Go.Proofs.Ythpccjgpbcginaa.Ev
