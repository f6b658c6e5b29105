/-
  How the evaluator's states stand for the model's: slots, variables in memory, rows of slices.
-/
import Derived.Test.YtjceimcepogkaaaGreatDoorEvB
namespace Go.Proofs.YtjceimcepogkaaaGreatDoor.Ev
open Go Go.RowKit

/-- Whether draws are looked after. -/
def drB : Bool := false
def Dr (a b : Nat) : Prop := drB = true → a ≤ b
theorem Dr.refl (a : Nat) : Dr a a := fun _ => Nat.le_refl _
theorem Dr.le {a b : Nat} (h : a ≤ b) : Dr a b := fun _ => h
theorem Dr.trans {a b c : Nat} (h : Dr a b) (k : Dr b c) : Dr a c := fun e => Nat.le_trans (h e) (k e)
/-- The kit's Below, and draws only go on. -/
structure Below (B : Nat) (w w' : World) : Prop where
  os : w'.os = w.os
  tape : w'.tape = w.tape
  output : w'.output = w.output
  size : w.heap.size ≤ w'.heap.size
  block : ∀ k, k < B → w'.heap[k]? = w.heap[k]?
  drawn : Dr w.drawn w'.drawn
theorem Below.refl (B : Nat) (w : World) : Below B w w := ⟨rfl, rfl, rfl, Nat.le_refl _, fun _ _ => rfl, Dr.refl _⟩
theorem Below.trans {B : Nat} {a b c : World} (h : Below B a b) (k : Below B b c) : Below B a c :=
  ⟨k.os.trans h.os, k.tape.trans h.tape, k.output.trans h.output, Nat.le_trans h.size k.size, fun i hi => (k.block i hi).trans (h.block i hi), Dr.trans h.drawn k.drawn⟩
theorem Below.mono {B B' : Nat} {w w' : World} (h : Below B w w') (hB : B' ≤ B) : Below B' w w' := ⟨h.os, h.tape, h.output, h.size, fun k hk => h.block k (Nat.lt_of_lt_of_le hk hB), h.drawn⟩
theorem Below.drew {B : Nat} {a w : World} (h : Below B a w) : Below B a w.drew := ⟨h.os, h.tape, h.output, h.size, h.block, Dr.trans h.drawn (Dr.le (Nat.le_succ _))⟩
theorem Below.alloc {B : Nat} {a w : World} (h : Below B a w) (hB : B ≤ w.heap.size) (o : Obj) : Below B a (w.alloc o) :=
  h.trans ⟨rfl, rfl, rfl, by simp, fun k hk => Go.RowKit.Below.heap_alloc _ _ _ (by omega), Dr.refl _⟩
theorem Below.toK {B : Nat} {w w' : World} (h : Below B w w') : Go.RowKit.Below B w w' := ⟨h.os, h.tape, h.output, h.size, h.block⟩
/-- The kit's grownBy, and draws only go on. -/
structure GB (w w' : World) (row : Option Nat) : Prop where
  os : w'.os = w.os
  tape : w'.tape = w.tape
  output : w'.output = w.output
  size : w.heap.size ≤ w'.heap.size
  block : ∀ k, k < w.heap.size → some k ≠ row → w'.heap[k]? = w.heap[k]?
  drawn : Dr w.drawn w'.drawn

def flats (es : List D) : List Value := es.flatMap D.flat

def Good (sh : Sh) (es : List D) : Prop := ∀ x, x ∈ es → x.WF ∧ x.shape = sh

/-- A slice that reads as the list, in a block below lim. -/
def RS (w : World) (lim : Nat) (sh : Sh) (es : List D) (u : Value) : Prop :=
  Good sh es ∧ ((es = [] ∧ u = .slice none 0 0) ∨
    ∃ g o cap cs T fr, g < lim ∧ es.length ≤ cap ∧ u = .slice (some ⟨g, o, none⟩) es.length cap ∧ w.heap[g]? = some (.cells cs T fr) ∧ ∀ j v, (flats es)[j]? = some v → cs[o + j]? = some v)

/-- A row of one's own that holds the list. -/
def RO (w : World) (B : Nat) (sh : Sh) (es : List D) (u : Value) : Prop :=
  Good sh es ∧ ∃ e, w.ownsRow B e sh.size u es.length (flats es)

def RT0 (B : Nat) (m : Nat → Option Bk) (φ : Nat → Option Nat) (w : World) : V → Value → Prop
  | .d x, u => x.WF ∧ u = x.val
  | .ptr k sh p t, u => ∃ x g, m k = some (.box x) ∧ x.shape = sh ∧ sh.sub p = some t ∧ φ k = some g ∧ u = .pointer (some ⟨g, sh.off p, none⟩)
  | .sl .nil _ es, u => es = [] ∧ u = .slice none 0 0
  | .sl .ro sh es, u => RS w B sh es u
  | .sl (.tg k) sh es, u => m k = some .row ∧ RO w B sh es u ∧ ∀ g, u.ownBlock = some g → φ k = some g
  | .ep .nil _ _, _ => False
  | .ep .ro sh x, u => x.WF ∧ x.shape = sh ∧ ∃ g off cs T fr, g < B ∧ u = .pointer (some ⟨g, off, none⟩) ∧ w.heap[g]? = some (.cells cs T fr) ∧ ∀ j v, x.flat[j]? = some v → cs[off + j]? = some v
  | .ep (.tg k) sh x, u => x.WF ∧ x.shape = sh ∧ ∃ g off cs T fr, m k = some .row ∧ φ k = some g ∧ u = .pointer (some ⟨g, off, none⟩) ∧ w.heap[g]? = some (.cells cs T fr) ∧ ∀ j v, x.flat[j]? = some v → cs[off + j]? = some v
  | .undef, u => u = undef
  | .junk, _ => True
  | .tnil, _ => False
  | .tcons _ _, _ => False
  | .clos _ _, _ => False
  | .ms k n u, v => ∃ x g cap, m k = some (.box x) ∧ x.shape = .arr n u ∧ φ k = some g ∧ v = .slice (some ⟨g, 0, none⟩) n cap

def RTL (B : Nat) (m : Nat → Option Bk) (φ : Nat → Option Nat) (w : World) : V → List Value → Prop
  | .tnil, l => l = []
  | .tcons a b, l => ∃ u us, l = u :: us ∧ RT0 B m φ w a u ∧ RTL B m φ w b us
  | _, _ => False

def RT (B : Nat) (m : Nat → Option Bk) (φ : Nat → Option Nat) (w : World) (v : V) (u : Value) : Prop :=
  match v with
  | .tnil => u = .tuple #[]
  | .tcons a b => ∃ us, u = .tuple us ∧ RTL B m φ w (.tcons a b) us.toList
  | .clos g c => ∃ cs, u = .func (.func g) #[] cs ∧ RTL B m φ w c cs.toList
  | v => RT0 B m φ w v u

/-- What a change must leave of that at which v points. -/
structure Keeps (B : Nat) (m m' : Nat → Option Bk) (φ φ' : Nat → Option Nat) (w w' : World) (v : V) : Prop where
  keys : ∀ k, v.has k = true → φ' k = φ k ∧ (m' k = m k ∨ ∃ x x', m k = some (.box x) ∧ m' k = some (.box x') ∧ x'.shape = x.shape)
  old : ∀ g, g < B → g < w.heap.size → w'.heap[g]? = w.heap[g]?
  rows : ∀ k g, v.has k = true → m k = some .row → φ k = some g → g < w.heap.size → w'.heap[g]? = w.heap[g]?

section
variable {B : Nat} {m m' : Nat → Option Bk} {φ φ' : Nat → Option Nat} {w w' : World}

theorem lt_of_heap {w : World} {g : Nat} {o : Obj} (h : w.heap[g]? = some o) : g < w.heap.size := (Array.getElem?_eq_some_iff.1 h).1

theorem ownsRow_same {e size n : Nat} {v : Value} {xs : List Value} (h : w.ownsRow B e size v n xs) (hk : ∀ g, v.ownBlock = some g → w'.heap[g]? = w.heap[g]?) : w'.ownsRow B e size v n xs := by
  refine ⟨h.1, ?_⟩
  rcases h.2 with h2 | ⟨g, cap, cur, rfl, hb, hg, r⟩
  · exact .inl h2
  · exact .inr ⟨g, cap, cur, rfl, hb, by rw [hk g rfl]; exact hg, r⟩

theorem ownsRow_lt {e size n : Nat} {v : Value} {xs : List Value} (h : w.ownsRow B e size v n xs) {g : Nat} (hg : v.ownBlock = some g) : B ≤ g ∧ g < w.heap.size := h.lt g hg

theorem RT0.keep {v : V} {u : Value} (h : RT0 B m φ w v u) (c : Keeps B m m' φ φ' w w' v) : RT0 B m' φ' w' v u := by
  cases v with
  | d x => exact h
  | ptr k sh p t =>
    obtain ⟨x, g, h1, h2, h3, h4, h5⟩ := h
    obtain ⟨c1, c2⟩ := c.keys k (by simp [V.has])
    rcases c2 with c2 | ⟨y, y', k1, k2, k3⟩
    · exact ⟨x, g, c2.trans h1, h2, h3, c1.trans h4, h5⟩
    · obtain rfl : y = x := by rw [h1] at k1; cases k1; rfl
      exact ⟨y', g, k2, k3.trans h2, h3, c1.trans h4, h5⟩
  | sl o sh es =>
    cases o with
    | nil => exact h
    | ro =>
      refine ⟨h.1, ?_⟩
      rcases h.2 with h2 | ⟨g, o, cap, cs, T, fr, h1, hc, h2, h3, h4⟩
      · exact .inl h2
      · exact .inr ⟨g, o, cap, cs, T, fr, h1, hc, h2, (c.old g h1 (lt_of_heap h3)).trans h3, h4⟩
    | tg k =>
      obtain ⟨h1, ⟨hg, e, h2⟩, h3⟩ := h
      obtain ⟨c1, c2⟩ := c.keys k (by simp [V.has])
      refine ⟨?_, ⟨hg, e, ownsRow_same h2 fun g hg' => ?_⟩, fun g hg' => c1.trans (h3 g hg')⟩
      · rcases c2 with c2 | ⟨y, y', k1, _, _⟩
        · exact c2.trans h1
        · rw [h1] at k1; cases k1
      · exact c.rows k g (by simp [V.has]) h1 (h3 g hg') (ownsRow_lt h2 hg').2
  | ep o sh x =>
    cases o with
    | nil => exact h
    | ro =>
      obtain ⟨h1, h2, g, off, cs, T, fr, h3, h4, h5, h6⟩ := h
      exact ⟨h1, h2, g, off, cs, T, fr, h3, h4, (c.old g h3 (lt_of_heap h5)).trans h5, h6⟩
    | tg k =>
      obtain ⟨h1, h2, g, off, cs, T, fr, h3, h4, h5, h6, h7⟩ := h
      obtain ⟨c1, c2⟩ := c.keys k (by simp [V.has])
      refine ⟨h1, h2, g, off, cs, T, fr, ?_, c1.trans h4, h5, (c.rows k g (by simp [V.has]) h3 h4 (lt_of_heap h6)).trans h6, h7⟩
      rcases c2 with c2 | ⟨y, y', k1, _, _⟩
      · exact c2.trans h3
      · rw [h3] at k1; cases k1
  | undef => exact h
  | junk => trivial
  | tnil => exact h
  | tcons a b => exact h
  | clos g c => exact h
  | ms k n u =>
    obtain ⟨x, g, cap, h1, h2, h3, h4⟩ := h
    obtain ⟨c1, c2⟩ := c.keys k (by simp [V.has])
    rcases c2 with c2 | ⟨y, y', k1, k2, k3⟩
    · exact ⟨x, g, cap, c2.trans h1, h2, c1.trans h3, h4⟩
    · obtain rfl : y = x := by rw [h1] at k1; cases k1; rfl
      exact ⟨y', g, cap, k2, k3.trans h2, c1.trans h3, h4⟩

theorem Keeps.part {v v' : V} (c : Keeps B m m' φ φ' w w' v) (h : ∀ k, v'.has k = true → v.has k = true) : Keeps B m m' φ φ' w w' v' :=
  ⟨fun k hk => c.keys k (h k hk), c.old, fun k g hk => c.rows k g (h k hk)⟩

theorem RTL.keep : ∀ {v : V} {l : List Value}, RTL B m φ w v l → Keeps B m m' φ φ' w w' v → RTL B m' φ' w' v l
  | .tnil, _, h, _ => h
  | .tcons a b, _, ⟨u, us, h1, h2, h3⟩, c =>
    ⟨u, us, h1, h2.keep (c.part fun k hk => by simp [V.has, hk]), RTL.keep h3 (c.part fun k hk => by simp [V.has, hk])⟩
  | .d _, _, h, _ => h.elim
  | .ptr _ _ _ _, _, h, _ => h.elim
  | .sl _ _ _, _, h, _ => h.elim
  | .ep _ _ _, _, h, _ => h.elim
  | .undef, _, h, _ => h.elim
  | .junk, _, h, _ => h.elim
  | .clos _ _, _, h, _ => h.elim
  | .ms _ _ _, _, h, _ => h.elim

theorem RT.keep {v : V} {u : Value} (h : RT B m φ w v u) (c : Keeps B m m' φ φ' w w' v) : RT B m' φ' w' v u := by
  cases v with
  | tnil => exact h
  | tcons a b => obtain ⟨us, h1, h2⟩ := h; exact ⟨us, h1, h2.keep c⟩
  | clos g cl => obtain ⟨us, h1, h2⟩ := h; exact ⟨us, h1, h2.keep (c.part fun k hk => by simpa [V.has] using hk)⟩
  | d x => exact RT0.keep (B := B) (m := m) (φ := φ) (w := w) (v := .d x) h c
  | ptr k sh p t => exact RT0.keep (B := B) (m := m) (φ := φ) (w := w) (v := .ptr k sh p t) h c
  | sl o sh es => exact RT0.keep (B := B) (m := m) (φ := φ) (w := w) (v := .sl o sh es) h c
  | ep o sh x => exact RT0.keep (B := B) (m := m) (φ := φ) (w := w) (v := .ep o sh x) h c
  | ms k n u => exact RT0.keep (B := B) (m := m) (φ := φ) (w := w) (v := .ms k n u) h c
  | undef => exact h
  | junk => trivial

theorem RT0.live {v : V} {u : Value} (h : RT0 B m φ w v u) {k : Nat} (hk : v.has k = true) : m k ≠ none := by
  cases v with
  | ptr k' sh p t => obtain ⟨x, g, h1, _⟩ := h; simp [V.has] at hk; subst hk; simp [h1]
  | sl o sh es =>
    cases o with
    | tg k' => simp [V.has] at hk; subst hk; simp [h.1]
    | nil => simp [V.has] at hk
    | ro => simp [V.has] at hk
  | ep o sh x =>
    cases o with
    | tg k' => obtain ⟨_, _, g, off, cs, T, fr, h3, _⟩ := h; simp [V.has] at hk; subst hk; simp [h3]
    | nil => simp [V.has] at hk
    | ro => simp [V.has] at hk
  | d x => simp [V.has] at hk
  | tnil => simp [V.has] at hk
  | tcons a b => exact h.elim
  | clos g c => exact h.elim
  | ms k' n u => obtain ⟨x, g, cap, h1, _⟩ := h; simp [V.has] at hk; subst hk; simp [h1]
  | undef => simp [V.has] at hk
  | junk => simp [V.has] at hk

theorem RTL.live : ∀ {v : V} {l : List Value}, RTL B m φ w v l → ∀ {k : Nat}, v.has k = true → m k ≠ none
  | .tnil, _, _, k, hk => by simp [V.has] at hk
  | .tcons a b, _, ⟨u, us, _, h2, h3⟩, k, hk => by
    simp only [V.has, Bool.or_eq_true] at hk
    rcases hk with hk | hk
    · exact h2.live hk
    · exact RTL.live h3 hk
  | .d _, _, h, _, _ => h.elim
  | .ptr _ _ _ _, _, h, _, _ => h.elim
  | .sl _ _ _, _, h, _, _ => h.elim
  | .ep _ _ _, _, h, _, _ => h.elim
  | .undef, _, h, _, _ => h.elim
  | .junk, _, h, _, _ => h.elim
  | .clos _ _, _, h, _, _ => h.elim
  | .ms _ _ _, _, h, _, _ => h.elim

theorem RT.live {v : V} {u : Value} (h : RT B m φ w v u) {k : Nat} (hk : v.has k = true) : m k ≠ none := by
  cases v with
  | tnil => simp [V.has] at hk
  | tcons a b => obtain ⟨us, h1, h2⟩ := h; exact h2.live hk
  | clos g c => obtain ⟨us, h1, h2⟩ := h; exact h2.live (by simpa [V.has] using hk)
  | d x => simp [V.has] at hk
  | ptr k' sh p t => exact RT0.live (B := B) (m := m) (φ := φ) (w := w) (v := .ptr k' sh p t) h hk
  | sl o sh es => exact RT0.live (B := B) (m := m) (φ := φ) (w := w) (v := .sl o sh es) h hk
  | ep o sh x => exact RT0.live (B := B) (m := m) (φ := φ) (w := w) (v := .ep o sh x) h hk
  | ms k' n u => exact RT0.live (B := B) (m := m) (φ := φ) (w := w) (v := .ms k' n u) h hk
  | undef => simp [V.has] at hk
  | junk => simp [V.has] at hk
end

/-- What code may touch: the blocks of its own keys, and new ones. -/
structure Fr (φ0 : Nat → Option Nat) (w0 : World) (φ : Nat → Option Nat) (w : World) : Prop where
  keep : ∀ g, g < w0.heap.size → (∀ k, φ0 k ≠ some g) → w.heap[g]? = w0.heap[g]?
  src : ∀ k g, φ k = some g → (∃ k', φ0 k' = some g) ∨ w0.heap.size ≤ g
  size : w0.heap.size ≤ w.heap.size
theorem Fr.refl (φ : Nat → Option Nat) (w : World) : Fr φ w φ w := ⟨fun _ _ _ => rfl, fun k g h => .inl ⟨k, h⟩, Nat.le_refl _⟩
theorem Fr.step {φ0 φ φ' : Nat → Option Nat} {w0 w w' : World} (h : Fr φ0 w0 φ w) (h' : Fr φ w φ' w') : Fr φ0 w0 φ' w' := by
  refine ⟨fun g hg hn => ?_, fun k g e => ?_, Nat.le_trans h.size h'.size⟩
  · rw [h'.keep g (Nat.lt_of_lt_of_le hg h.size) (fun k e => ?_), h.keep g hg hn]
    rcases h.src k g e with ⟨k', e'⟩ | hle
    · exact hn k' e'
    · omega
  · rcases h'.src k g e with ⟨k', e'⟩ | hle
    · exact h.src k' g e'
    · exact .inr (Nat.le_trans h.size hle)

/-- What lies behind the first len cells of a block that was there. -/
def tl (w0 : World) (g len : Nat) : List Value :=
  match w0.heap[g]? with
  | some (.cells cs _ _) => cs.toList.drop len
  | _ => []
theorem tl_new {w0 : World} {g : Nat} (h : w0.heap.size ≤ g) (len : Nat) : tl w0 g len = [] := by unfold tl; rw [Array.getElem?_eq_none h]
theorem tl_of {w0 : World} {g : Nat} {cs : Array Value} {T : TypeId} {fr : Nat × Nat} (h : w0.heap[g]? = some (.cells cs T fr)) (len : Nat) : tl w0 g len = cs.toList.drop len := by unfold tl; rw [h]

structure Rel (B : Nat) (w0 : World) (φ0 : Nat → Option Nat) (s : St) (a : Act) (w : World) (φ : Nat → Option Nat) : Prop where
  dfr : a.defers = []
  tm : ∀ i, RT B s.m φ w (s.t i) (a.tmps.getD i undef)
  bel : Below B w0 w
  base : B ≤ w.heap.size
  box : ∀ k x, s.m k = some (.box x) → x.WF ∧ ∃ g T, φ k = some g ∧ w.heap[g]? = some (.cells (x.flat ++ tl w0 g x.flat.length).toArray T (0, 0))
  inj : ∀ k k' g, φ k = some g → φ k' = some g → k = k'
  lo : ∀ k g, φ k = some g → B ≤ g ∧ g < w.heap.size
  fr : Fr φ0 w0 φ w
  pin : ∀ k g x, a.tmps.size ≤ k → φ0 k = some g → s.m k = some (.box x) → φ k = some g

/-- What an operation leaves: the value of its slot, and the new variable, or row. -/
def StepOK (B : Nat) (m : Nat → Option Bk) (φ : Nat → Option Nat) (w : World) (k : Nat) (v : V) (b : Option Bk) (u : Value) (w' : World) (φ' : Nat → Option Nat) : Prop :=
  Below w.heap.size w w' ∧
  match b with
  | none => φ' = φ ∧ RT B m φ w' v u
  | some bk => (∀ k', k' ≠ k → φ' k' = φ k') ∧ (∀ g, φ' k = some g → w.heap.size ≤ g ∧ g < w'.heap.size) ∧ RT B (upd m k (some bk)) φ' w' v u ∧
      ∀ x, bk = .box x → x.WF ∧ ∃ g T, φ' k = some g ∧ w'.heap[g]? = some (.cells x.flat.toArray T (0, 0))

theorem upd_same {α : Type} (f : Nat → α) (k : Nat) (v : α) : upd f k v k = v := if_pos rfl
theorem upd_ne {α : Type} (f : Nat → α) {k i : Nat} (v : α) (h : i ≠ k) : upd f k v i = f i := if_neg h

theorem put_get (a : Act) (k : Nat) (u : Value) (h : k < a.tmps.size) (i : Nat) : (a.put (some k) u).tmps.getD i undef = if i = k then u else a.tmps.getD i undef := by
  by_cases hi : i = k
  · subst hi; simp [Act.put, h]
  · simp [Act.put, hi, Array.getElem?_setIfInBounds_ne (Ne.symm hi)]

theorem put_size (a : Act) (d : Option Nat) (u : Value) : (a.put d u).tmps.size = a.tmps.size := by cases d <;> simp [Act.put]
theorem put_dfr (a : Act) (d : Option Nat) (u : Value) : (a.put d u).defers = a.defers := by cases d <;> rfl

section
variable {B : Nat} {w0 : World} {φ0 : Nat → Option Nat} {s : St} {a : Act} {w w' : World} {φ φ' : Nat → Option Nat}

/-- A world that has grown. -/
theorem Rel.grow (r : Rel B w0 φ0 s a w φ) (hb : Below w.heap.size w w') : Rel B w0 φ0 s a w' φ where
  dfr := r.dfr
  tm i := (r.tm i).keep ⟨fun k _ => ⟨rfl, .inl rfl⟩, fun g _ hg => hb.block g hg, fun k g _ _ _ hg => hb.block g hg⟩
  bel := r.bel.trans (hb.mono r.base)
  base := Nat.le_trans r.base hb.size
  box k x h := by
    obtain ⟨h1, g, T, h2, h3⟩ := r.box k x h
    exact ⟨h1, g, T, h2, (hb.block g (lt_of_heap h3)).trans h3⟩
  inj := r.inj
  lo k g h := ⟨(r.lo k g h).1, Nat.lt_of_lt_of_le (r.lo k g h).2 hb.size⟩
  fr := r.fr.step ⟨fun g hg _ => hb.block g hg, fun k g e => .inl ⟨k, e⟩, hb.size⟩
  pin := r.pin

theorem Rel.app (r : Rel B w0 φ0 s a w φ) (d : Option Nat) {v : V} {b : Option Bk} {u : Value} (h : StepOK B s.m φ w (d.getD 0) v b u w' φ')
    (hd : ∀ k, d = some k → k < a.tmps.size) : ∃ φ'', Rel B w0 φ0 (s.app d v b) (a.put d u) w' φ'' := by
  obtain ⟨hb, h⟩ := h
  cases d with
  | none => exact ⟨φ, r.grow hb⟩
  | some k =>
    have g := r.grow hb
    have hk := hd k rfl
    have hsz : (a.put (some k) u).tmps.size = a.tmps.size := put_size _ _ _
    cases b with
    | none =>
      obtain ⟨rfl, h⟩ := h
      refine ⟨φ', ?_, ?_, g.bel, g.base, g.box, g.inj, g.lo, g.fr, by rw [hsz]; exact g.pin⟩
      · rw [put_dfr]; exact r.dfr
      · intro i
        rw [put_get a k u hk]
        by_cases hi : i = k
        · subst hi; simp only [St.app, upd_same, if_true]; exact h
        · simp only [St.app, upd_ne _ _ hi, hi, if_false]; exact g.tm i
    | some bk =>
      obtain ⟨h1, h2, h3, h4⟩ := h
      simp only [Option.getD_some] at h1 h2 h3 h4
      refine ⟨φ', ?_, ?_, g.bel, g.base, ?_, ?_, ?_, r.fr.step ⟨fun g' hg' _ => hb.block g' hg', fun k' g' e => ?_, hb.size⟩, fun k' g' x hk' h0 hx => ?_⟩
      · rw [put_dfr]; exact r.dfr
      · intro i
        rw [put_get a k u hk]
        by_cases hi : i = k
        · subst hi; simp only [St.app, upd_same, if_true]; exact h3
        · simp only [St.app, upd_ne _ _ hi, hi, if_false]
          have key : (s.t i).has k = false → RT B (upd s.m k (some bk)) φ' w' (s.t i) (a.tmps.getD i undef) := fun hn =>
            (r.tm i).keep ⟨fun k' hk' => by
              have : k' ≠ k := fun e => by rw [e, hn] at hk'; cases hk'
              exact ⟨h1 k' this, .inl (upd_ne _ _ this)⟩, fun g _ hg => hb.block g hg, fun k g _ _ _ hg => hb.block g hg⟩
          cases hm : s.m k with
          | none =>
            refine key ?_
            cases hh : (s.t i).has k with
            | false => rfl
            | true => exact absurd hm ((r.tm i).live hh)
          | some b0 =>
            show RT B (upd s.m k (some bk)) φ' w' ((s.t i).kill k) _
            unfold V.kill
            cases hh : (s.t i).has k with
            | false => simpa using key hh
            | true => trivial
      · intro k' x hx
        by_cases hk' : k' = k
        · subst hk'
          simp only [St.app, upd_same] at hx
          obtain ⟨q1, g', T, q2, q3⟩ := h4 x (by simpa using hx)
          refine ⟨q1, g', T, q2, ?_⟩
          rw [tl_new (Nat.le_trans r.fr.size (h2 g' q2).1), List.append_nil]; exact q3
        · simp only [St.app, upd_ne _ _ hk'] at hx
          obtain ⟨q1, g', T, q2, q3⟩ := g.box k' x hx
          exact ⟨q1, g', T, (h1 k' hk').trans q2, q3⟩
      · intro k1 k2 g' e1 e2
        by_cases c1 : k1 = k <;> by_cases c2 : k2 = k
        · rw [c1, c2]
        · subst c1
          rw [h1 k2 c2] at e2
          have := (h2 g' e1).1; have := (r.lo k2 g' e2).2; omega
        · subst c2
          rw [h1 k1 c1] at e1
          have := (h2 g' e2).1; have := (r.lo k1 g' e1).2; omega
        · rw [h1 k1 c1] at e1; rw [h1 k2 c2] at e2
          exact r.inj _ _ _ e1 e2
      · intro k' g' e
        by_cases c : k' = k
        · subst c
          have := h2 g' e
          exact ⟨Nat.le_trans r.base this.1, this.2⟩
        · rw [h1 k' c] at e; exact g.lo k' g' e
      · by_cases c : k' = k
        · subst c; exact .inr (h2 g' e).1
        · rw [h1 k' c] at e; exact .inl ⟨k', e⟩
      · rw [hsz] at hk'
        have hne : k' ≠ k := by omega
        rw [h1 k' hne]
        simp only [St.app, upd_ne _ _ hne] at hx
        exact r.pin k' g' x hk' h0 hx
end
end Go.Proofs.YtjceimcepogkaaaGreatDoor.Ev
