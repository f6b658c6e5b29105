/-
  A variable that a closure writes: what the evaluator's states keep behind such a call; regions run in part.
-/
import Derived.Test.YtjceimcepogkaaaGreatDoorEvZ
namespace Go.Proofs.YtjceimcepogkaaaGreatDoor.Ev
open Go Go.RowKit

/-- What does not look at memory that others may write. -/
def V.free : V → Bool
  | .d _ => true
  | .ptr _ _ _ _ => true
  | .sl .nil _ _ => true
  | .tnil => true
  | .tcons a b => a.free && b.free
  | .undef => true
  | .junk => true
  | .clos _ c => c.free
  | _ => false

section
variable {P : Program} {E : Env} {B : Nat} {w0 : World} {φ0 : Nat → Option Nat} {s s' : St} {a : Act} {w w' : World} {φ φ' : Nat → Option Nat} {m : Nat → Option Bk} {n : Nat}

theorem RT0.free {v : V} {u : Value} (h : RT0 B m φ w v u) (hf : v.free = true) : RT0 B m φ w' v u := by
  cases v with
  | d x => exact h
  | ptr k sh p t => exact h
  | sl o sh es =>
    cases o with
    | nil => exact h
    | ro => simp [V.free] at hf
    | tg k => simp [V.free] at hf
  | ep o sh x => simp [V.free] at hf
  | tnil => exact h
  | tcons a b => exact h
  | undef => exact h
  | junk => trivial
  | clos g c => exact h
  | ms k n u => exact h

theorem RTL.free : ∀ {v : V} {l : List Value}, RTL B m φ w v l → v.free = true → RTL B m φ w' v l
  | .tnil, _, h, _ => h
  | .tcons a b, _, ⟨u, us, h1, h2, h3⟩, hf => by
    simp only [V.free, Bool.and_eq_true] at hf
    exact ⟨u, us, h1, h2.free hf.1, RTL.free h3 hf.2⟩
  | .d _, _, h, _ => h.elim
  | .ptr _ _ _ _, _, h, _ => h.elim
  | .sl _ _ _, _, h, _ => h.elim
  | .ep _ _ _, _, h, _ => h.elim
  | .undef, _, h, _ => h.elim
  | .junk, _, h, _ => h.elim
  | .clos _ _, _, h, _ => h.elim
  | .ms _ _ _, _, h, _ => h.elim

theorem RT.free {v : V} {u : Value} (h : RT B m φ w v u) (hf : v.free = true) : RT B m φ w' v u := by
  cases v with
  | tnil => exact h
  | tcons a b => obtain ⟨us, h1, h2⟩ := h; exact ⟨us, h1, h2.free hf⟩
  | clos g c => obtain ⟨us, h1, h2⟩ := h; exact ⟨us, h1, h2.free (by simpa [V.free] using hf)⟩
  | d x => exact RT0.free (B := B) (m := m) (φ := φ) (w := w) (w' := w') (v := .d x) h hf
  | ptr k sh p t => exact RT0.free (B := B) (m := m) (φ := φ) (w := w) (w' := w') (v := .ptr k sh p t) h hf
  | sl o sh es => exact RT0.free (B := B) (m := m) (φ := φ) (w := w) (w' := w') (v := .sl o sh es) h hf
  | ep o sh x => exact RT0.free (B := B) (m := m) (φ := φ) (w := w) (w' := w') (v := .ep o sh x) h hf
  | ms k n u => exact RT0.free (B := B) (m := m) (φ := φ) (w := w) (w' := w') (v := .ms k n u) h hf
  | undef => exact h
  | junk => trivial

theorem tl_re {g : Nat} {l r : List Value} {T : TypeId} (h : w.heap[g]? = some (.cells (l ++ r).toArray T (0, 0))) : tl w g l.length = r := by rw [tl_of h]; simp
/-- Behind a change of what the state does not speak of. -/
theorem Rel.anew (r : Rel B w0 φ0 s a w φ) (hf : ∀ i, (s.t i).free = true) (hk : ∀ k g, φ k = some g → w'.heap[g]? = w.heap[g]?) (hs : w.heap.size ≤ w'.heap.size) : Rel B w' φ s a w' φ where
  dfr := r.dfr
  tm i := (r.tm i).free (hf i)
  bel := Below.refl _ _
  base := Nat.le_trans r.base hs
  box k x h := by
    obtain ⟨h1, g, T, h2, h3⟩ := r.box k x h
    have e := (hk k g h2).trans h3
    exact ⟨h1, g, T, h2, by rw [tl_re e]; exact e⟩
  inj := r.inj
  lo k g h := ⟨(r.lo k g h).1, Nat.lt_of_lt_of_le (r.lo k g h).2 hs⟩
  fr := Fr.refl _ _
  pin := fun _ _ _ _ h _ => h

/-- The first operations of a region, in the order of the text. -/
theorem evOps_first (hE : EnvOK P E) {call : Nat → List V → Option V} (hcall : ∀ g l r, call g l = some r → ∀ w, CallX P w g l r) {ops : Array Oper} (hdst : ∀ (j : Nat) (o : Oper) (d : Nat), ops[j]? = some o → o.dst = some d → d < n)
    {Q : Exit → Act → World → Prop} {sn : St} {R2 : List Nat} (hQ : ∀ a' w' φ', Rel B w0 φ0 sn a' w' φ' → a'.tmps.size = n → wpOps P ops Q R2 a' w') :
    ∀ (R : List Nat) (s : St) (a : Act) (w : World) (φ : Nat → Option Nat), Rel B w0 φ0 s a w φ → a.tmps.size = n → evIdx E call ops R s = some sn → wpOps P ops Q (R ++ R2) a w
  | [], s, a, w, φ, hr, hn, hev => by simp only [evIdx] at hev; cases hev; exact hQ a w φ hr hn
  | i :: R, s, a, w, φ, hr, hn, hev => by
    simp only [evIdx] at hev
    simp only [List.cons_append, wpOps]
    cases hi : ops[i]? with
    | none => rw [hi] at hev; exact evOps_first hE hcall hdst hQ R s a w φ hr hn hev
    | some o =>
      rw [hi] at hev
      simp only at hev ⊢
      obtain ⟨s1, h1, h2⟩ := ob_eq_some hev
      have hsound := evG_sound (o := o) (ops := ops) (Q := Q) (K := wpOps P ops Q (R ++ R2)) hE (fun g l r h w _ => hcall g l r h w) hr (fun d hd => by rw [hn]; exact hdst i o d hi hd) (fun j d hjd => by
        rw [hn]
        cases hj : ops.toList[j]? with
        | none => rw [hj] at hjd; cases hjd
        | some o => rw [hj] at hjd; exact hdst j o d (by simpa using hj) hjd) h1 (fun a' w' φ' hr' hn' => evOps_first hE hcall hdst hQ R s1 a' w' φ' hr' (by rw [hn', hn]) h2)
      split at hsound
      · rename_i hw; rw [if_pos hw]; exact .inl hsound
      · rename_i hw; rw [if_neg hw]; exact hsound

theorem wpOps_cons {ops : Array Oper} {i : Nat} {o : Oper} {R : List Nat} {Q : Exit → Act → World → Prop} (h : ops[i]? = some o) (hg : o.guard = none) (hw : o.wp P a w (wpOps P ops Q R) Q) : wpOps P ops Q (i :: R) a w := by
  simp only [wpOps, h]
  rw [if_pos (by unfold Region.wanted; rw [hg])]
  exact .inl hw

/-- A piece of code that comes to its end. -/
theorem piece (hE : EnvOK P E) {call : Nat → List V → Option V} (hcall : ∀ g l r, call g l = some r → ∀ w, CallX P w g l r) {fn lf : Nat} {c : Code} (hok : okCode P (E.dp fn) n c = true) (hev : evC E call fn lf c s = some (.normal, s'))
    {Q : Exit → Act → World → Prop} (r : Rel B w0 φ0 s a w φ) (hn : a.tmps.size = n) (hQ : ∀ a' w' φ', Rel B w0 φ0 s' a' w' φ' → a'.tmps.size = n → Q .normal a' w') : c.wp P Q a w :=
  (evC_sound hE (fun g l r h w _ => hcall g l r h w) fn lf c hok).1 s .normal s' hev Q a w φ r hn hQ

/-- An append to a row of one's own. -/
theorem append_run (hE : EnvOK P E) {t ty e : Nat} {tt te : Ty} (ht : E.ty t = some tt) (hkd : tt.kd = .slice e) (hte : E.ty e = some te) (hpos : 0 < te.sh.size) {es es' : List D} (hg1 : Good te.sh es) {ow : Own} {u1 u2 : Value}
    (hy : RT B m φ w (.sl ow te.sh es') u2) (hbytes : (es.length + es'.length) * te.bytes ≤ 140737488355328) (hmax : es.length + es'.length ≤ maxLen) {lo : Nat} {e' : TypeId} (hown : w.ownsRow lo e' te.sh.size u1 es.length (flats es)) (hlo : lo ≤ w.heap.size) :
    ∃ v' w' e'', (Builtin.append_ #[t, t] ty #[u1, u2]).run P w = .ok v' w' ∧ w'.ownsRow lo e'' te.sh.size v' (es ++ es').length (flats (es ++ es')) ∧ GB w w' u1.ownBlock ∧
      (∀ g, v'.ownBlock = some g → u1.ownBlock = some g ∨ w.heap.size ≤ g) ∧ Good te.sh (es ++ es') := by
  have hkd' := (hE t tt ht).kd
  rw [hkd] at hkd'
  simp only [KdOK] at hkd'
  have hT := hE e te hte
  obtain ⟨i, hi, hz, hby⟩ := hT.zero
  obtain ⟨i', d, hi', hsz, _, _⟩ := hT.lies
  rw [hi] at hi'; cases hi'
  have hzs : te.zero.val.cells.size = te.sh.size := by rw [D.val_cells _ hT.zwf.1]; simp [te.zero.flat_length hT.zwf.1, hT.zwf.2]
  obtain ⟨hg2, hr2⟩ := sl_read hy
  have hgood : Good te.sh (es ++ es') := fun q hq => by
    rcases List.mem_append.1 hq with hq | hq
    · exact hg1 q hq
    · exact hg2 q hq
  rcases hr2 with ⟨rfl, rfl⟩ | ⟨g, off, cap, rfl, hcells⟩
  · refine ⟨u1, w, e', ?_, by simpa using hown, ⟨rfl, rfl, rfl, Nat.le_refl _, fun _ _ _ => rfl, Dr.refl _⟩, (fun g hg => .inl hg), hgood⟩
    rcases hown.2 with ⟨rfl, _⟩ | ⟨g, cap, cur, rfl, _, _, hnc, _⟩
    · exact run_append_nothing t ty e i hkd' hi none 0 0 (Nat.le_refl _)
    · exact run_append_nothing t ty e i hkd' hi _ _ _ hnc
  · obtain ⟨v', w', e'', q1, q2, q3, q4⟩ := run_append_own' (P := P) (w := w) lo t ty e i te.zero.val te.sh.size te.bytes hkd' hi hz hsz hby hzs hpos u1 es.length (flats es) e' hown
      ⟨g, off, none⟩ es'.length cap (flats es') (flats_length hg2) (fun j v hj => by rw [Addr.add_mid]; exact hcells j v hj) (flats_one hg2) hmax hbytes hlo
    exact ⟨v', w', e'', q1, by rw [flats_append, List.length_append]; exact q2, q3, q4, hgood⟩

/-- A variable in memory that holds a row of one's own, of which the evaluator's state does not speak. -/
structure Hid (B : Nat) (w : World) (g : Nat) (sh : Sh) (es : List D) (u : Value) : Prop where
  lo : B ≤ g
  cell : ∃ T, w.heap[g]? = some (.cells #[u] T (0, 0))
  row : RO w B sh es u
  ne : u.ownBlock ≠ some g

theorem Hid.lt {g : Nat} {sh : Sh} {es : List D} {u : Value} (h : Hid B w g sh es u) : g < w.heap.size := by
  obtain ⟨T, hT⟩ := h.cell; exact lt_of_heap hT

/-- It is as it was where code touches but its own. -/
theorem Hid.fr {g : Nat} {sh : Sh} {es : List D} {u : Value} (h : Hid B w g sh es u) (f : Fr φ w φ' w') (h1 : ∀ k, φ k ≠ some g) (h2 : ∀ k g', u.ownBlock = some g' → φ k ≠ some g') :
    Hid B w' g sh es u ∧ (∀ k, φ' k ≠ some g) ∧ ∀ k g', u.ownBlock = some g' → φ' k ≠ some g' := by
  have hlt := h.lt
  obtain ⟨T, hT⟩ := h.cell
  obtain ⟨hg, e, ho⟩ := h.row
  refine ⟨⟨h.lo, ⟨T, (f.keep g hlt h1).trans hT⟩, ⟨hg, e, ownsRow_same ho fun g' hg' => f.keep g' (ownsRow_lt ho hg').2 fun k => h2 k g' hg'⟩, h.ne⟩, fun k e' => ?_, fun k g' hg' e' => ?_⟩
  · rcases f.src k g e' with ⟨k', q⟩ | q
    · exact h1 k' q
    · omega
  · rcases f.src k g' e' with ⟨k', q⟩ | q
    · exact h2 k' g' hg' q
    · have := (ownsRow_lt ho hg').2; omega
/-- A state, and beside it a hidden variable. -/
structure HR (B : Nat) (W : World) (n : Nat) (g : Nat) (sh : Sh) (es : List D) (s : St) (a : Act) (w : World) : Prop where
  ex : ∃ φ u, Rel B w φ s a w φ ∧ Hid B w g sh es u ∧ (∀ k, φ k ≠ some g) ∧ ∀ k g', u.ownBlock = some g' → φ k ≠ some g'
  size : a.tmps.size = n
  bel : Below B W w

theorem Rel.re (r : Rel B w0 φ0 s a w φ) : Rel B w φ s a w φ := ⟨r.dfr, r.tm, Below.refl _ _, r.base, fun k x h => by
    obtain ⟨h1, g, T, h2, h3⟩ := r.box k x h
    exact ⟨h1, g, T, h2, by rw [tl_re h3]; exact h3⟩, r.inj, r.lo, Fr.refl _ _, fun _ _ _ _ h _ => h⟩

theorem HR.of {W : World} {a' : Act} {g : Nat} {sh : Sh} {es : List D} {u : Value} (r : Rel B w φ s' a' w' φ') (hn : a'.tmps.size = n) (hb : Below B W w) (hh : Hid B w g sh es u) (h1 : ∀ k, φ k ≠ some g) (h2 : ∀ k g', u.ownBlock = some g' → φ k ≠ some g') :
    HR B W n g sh es s' a' w' := by
  obtain ⟨q1, q2, q3⟩ := hh.fr r.fr h1 h2
  exact ⟨⟨φ', u, r.re, q1, q2, q3⟩, hn, hb.trans r.bel⟩

theorem HR.piece {W : World} {g : Nat} {sh : Sh} {es : List D} (h : HR B W n g sh es s a w) (hE : EnvOK P E) {call : Nat → List V → Option V} (hcall : ∀ g l r, call g l = some r → ∀ w, CallX P w g l r) {fn lf : Nat} {c : Code}
    {b : List Nat × List Nat} (hok : okCode P (E.dp fn) n c = true) (hev : fgt b (evC E call fn lf c s) = some (.normal, s')) {Q : Exit → Act → World → Prop} (hQ : ∀ a' w', HR B W n g sh es s' a' w' → Q .normal a' w') : c.wp P Q a w := by
  obtain ⟨⟨φ, u, r, hh, h1, h2⟩, hn, hb⟩ := h
  unfold fgt at hev
  rcases sq_some hev with ⟨s1, h3, h4⟩ | ⟨_, hne⟩
  · obtain ⟨s2, h5, h6⟩ := ob_eq_some h4
    cases h6
    exact Go.Proofs.YtjceimcepogkaaaGreatDoor.Ev.piece hE hcall hok h3 r hn fun a' w' φ' r' hn' => hQ a' w' (HR.of (forget_sound r' h5) hn' hb hh h1 h2)
  · exact absurd rfl hne

theorem HR.forget {W : World} {g : Nat} {sh : Sh} {es : List D} (h : HR B W n g sh es s a w) {b : List Nat × List Nat} (hb : s.forget b = some s') : HR B W n g sh es s' a w := by
  obtain ⟨⟨φ, u, r, hh, h1, h2⟩, hn, hb'⟩ := h
  exact ⟨⟨φ, u, forget_sound r hb, hh, h1, h2⟩, hn, hb'⟩

theorem HR.slot {W : World} {g : Nat} {sh : Sh} {es : List D} (h : HR B W n g sh es s a w) {i : Nat} {x : D} (hi : s.t i = .d x) : a.eval (.tmp i) = x.val := by
  obtain ⟨⟨φ, u, r, _⟩, _⟩ := h
  have := r.tm i
  rw [hi] at this
  exact this.2

/-- The world taken anew: what was one's own is only read from now on. -/
def V.ro (m : Nat → Option Bk) : V → V
  | .d x => .d x
  | .sl _ sh es => .sl .ro sh es
  | .ep .nil _ _ => .junk
  | .ep _ sh x => .ep .ro sh x
  | .ptr k sh p u =>
    match m k with
    | some (.box x) => .ep .ro u (x.get p)
    | _ => .junk
  | _ => .junk
theorem RT.ro {v : V} {u : Value} (r : Rel B w0 φ0 s a w φ) (h : RT B s.m φ w v u) {m' : Nat → Option Bk} {φ' : Nat → Option Nat} : RT w.heap.size m' φ' w (v.ro s.m) u := by
  cases v with
  | d x => exact h
  | sl o sh es => exact argV_sound (v := .sl o sh es) (v' := .sl .ro sh es) r h rfl
  | ep o sh x =>
    cases o with
    | nil => trivial
    | ro =>
      obtain ⟨h1, h2, g, off, cs, T, fr, h3, h4, h5, h6⟩ := h
      exact ⟨h1, h2, g, off, cs, T, fr, lt_of_heap h5, h4, h5, h6⟩
    | tg k =>
      obtain ⟨h1, h2, g, off, cs, T, fr, _, _, h4, h5, h6⟩ := h
      exact ⟨h1, h2, g, off, cs, T, fr, lt_of_heap h5, h4, h5, h6⟩
  | ptr k sh p t =>
    have nx : ∀ q, s.m k = q → (∀ x, q ≠ some (.box x)) → V.ro s.m (.ptr k sh p t) = .junk := fun q hq hn => by
      simp only [V.ro, hq]
    cases hm : s.m k with
    | none => rw [nx none hm (fun x h => by cases h)]; trivial
    | some b =>
      cases b with
      | row => rw [nx _ hm (fun x h => by cases h)]; trivial
      | box x =>
        have e : V.ro s.m (.ptr k sh p t) = .ep .ro t (x.get p) := by simp only [V.ro, hm]
        rw [e]
        obtain ⟨h1, h2, h3, h4, h5, g, T, h6, rfl, h8, h9⟩ := box_at r hm h
        refine ⟨h4, h5, g, _, _, T, (0, 0), lt_of_heap h8, rfl, h8, fun j c hj => ?_⟩
        have := h9 j c hj
        rwa [cell_of_row w g _ _ T (0, 0) h8] at this
  | tnil => trivial
  | tcons a b => trivial
  | undef => trivial
  | junk => trivial
  | clos g c => trivial
  | ms k n u => trivial
def St.anew (l : List Nat) (s : St) : St := { t := tab .junk (l.map fun i => (i, (s.t i).ro s.m)), m := tab none [] }
theorem Rel.rebase (r : Rel B w0 φ0 s a w φ) (l : List Nat) : Rel w.heap.size w (fun _ => none) (s.anew l) a w (fun _ => none) where
  dfr := r.dfr
  tm i := by
    show RT w.heap.size _ _ w (tab .junk (l.map fun i => (i, (s.t i).ro s.m)) i) _
    rw [tab_map V.junk (fun i => (s.t i).ro s.m)]
    by_cases hi : i ∈ l
    · rw [if_pos hi]; exact (r.tm i).ro r
    · rw [if_neg hi]; trivial
  bel := Below.refl _ _
  base := Nat.le_refl _
  box k x h := by cases h
  inj k k' g h := by cases h
  lo k g h := by cases h
  fr := Fr.refl _ _
  pin := fun _ _ _ _ h _ => by cases h
/-- One slot seen otherwise. -/
theorem Rel.see (r : Rel B w0 φ0 s a w φ) {i : Nat} {v : V} (h : RT B s.m φ w v (a.tmps.getD i undef)) {s' : St} (ht : ∀ j, j ≠ i → s'.t j = s.t j) (hi : s'.t i = v) (hm : s'.m = s.m) : Rel B w0 φ0 s' a w φ := by
  refine ⟨r.dfr, fun j => ?_, r.bel, r.base, ?_, r.inj, r.lo, r.fr, by rw [hm]; exact r.pin⟩
  · rw [hm]
    by_cases hj : j = i
    · subst hj; rw [hi]; exact h
    · rw [ht j hj]; exact r.tm j
  · rw [hm]; exact r.box

/-- Code runs to its end, or leaves for good. -/
theorem pieceR (hE : EnvOK P E) {call : Nat → List V → Option V} (hcall : ∀ g l r, call g l = some r → ∀ w, CallX P w g l r) {fn lf : Nat} {c : Code} {b : List Nat × List Nat} (hok : okCode P (E.dp fn) n c = true) (hev : fgt b (evC E call fn lf c s) = some (.normal, s'))
    {Q : Exit → Act → World → Prop} (r : Rel B w0 φ0 s a w φ) (hn : a.tmps.size = n) (hQ : ∀ a' w' φ', Rel B w0 φ0 s' a' w' φ' → a'.tmps.size = n → Q .normal a' w') : c.wp P Q a w := by
  unfold fgt at hev
  rcases sq_some hev with ⟨s1, h3, h4⟩ | ⟨_, hne⟩
  · obtain ⟨s2, h5, h6⟩ := ob_eq_some h4
    cases h6
    exact Go.Proofs.YtjceimcepogkaaaGreatDoor.Ev.piece hE hcall hok h3 r hn fun a' w' φ' r' hn' => hQ a' w' φ' (forget_sound r' h5) hn'
  · exact absurd rfl hne
end
end Go.Proofs.YtjceimcepogkaaaGreatDoor.Ev
