/- A row of one's own that is written in place, beside a state that does not speak of it. -/
import Derived.Test.YtfmbchnejelpkaaUl
import Derived.Test.YtfmbchnejelpkaaUj
namespace Go.Proofs.Ytfmbchnejelpkaa.Ev
open Go
attribute [local congr] ob_congr sq_congr cd_congr ite_congr1 iter_congr it1_congr jumps_congr
set_option maxRecDepth 100000
set_option linter.unusedSimpArgs false
set_option linter.unusedVariables false
open Go.RowKit
/-- What looks at none but memory below. -/
def V.low : V → Bool
  | .d _ => true
  | .sl .nil _ _ => true
  | .sl .ro _ _ => true
  | .ep .ro _ _ => true
  | .undef => true
  | .junk => true
  | _ => false
section
variable {B : Nat} {w0 w w' W : World} {φ0 φ : Nat → Option Nat} {s s' : St} {a : Act} {n : Nat} {es : List D} {u : Value}
theorem Rel.lower (r : Rel B w0 φ0 s a w φ) (hl : ∀ i, (s.t i).low = true) (hk : ∀ g, g < B → w'.heap[g]? = w.heap[g]?) (hs : w.heap.size ≤ w'.heap.size) : Rel B w' (fun _ => none) ⟨s.t, fun _ => none⟩ a w' (fun _ => none) where
  dfr := r.dfr
  tm i := by
    have h := r.tm i
    have l := hl i
    show RT B _ _ w' (s.t i) _
    revert h l
    generalize s.t i = v
    generalize a.tmps.getD i undef = x
    intro h l
    cases v with
    | d y => exact h
    | sl o sh es =>
      cases o with
      | nil => exact h
      | ro =>
        obtain ⟨h1, h2⟩ := h
        refine ⟨h1, ?_⟩
        rcases h2 with h2 | ⟨g, o, cap, cs, T, fr, q1, q2, q3, q4, q5⟩
        · exact .inl h2
        · exact .inr ⟨g, o, cap, cs, T, fr, q1, q2, q3, (hk g q1).trans q4, q5⟩
      | tg k => cases l
    | ep o sh y =>
      cases o with
      | nil => cases l
      | ro =>
        obtain ⟨h1, h2, g, off, cs, T, fr, q1, q2, q3, q4⟩ := h
        exact ⟨h1, h2, g, off, cs, T, fr, q1, q2, (hk g q1).trans q3, q4⟩
      | tg k => cases l
    | undef => exact h
    | junk => trivial
    | _ => cases l
  bel := Below.refl _ _
  base := Nat.le_trans r.base hs
  box k x h := by cases h
  inj k k' g h := by cases h
  lo k g h := by cases h
  fr := Fr.refl _ _
  pin := fun _ _ _ _ h _ => by cases h
theorem tab_low {l : List (Nat × V)} (h : l.all (fun p => p.2.low) = true) (i : Nat) : (tab .junk l i).low = true := by
  induction l with
  | nil => rfl
  | cons p l ih =>
    rw [List.all_cons, Bool.and_eq_true] at h
    simp only [tab]
    split
    · exact h.1
    · exact ih h.2
theorem Rel.junk (r : Rel B w0 φ0 s a w φ) {x : Nat} (hx : s.t x = .junk) (hn : x < a.tmps.size) (v : Value) : Rel B w0 φ0 s (a.put (some x) v) w φ where
  dfr := by rw [put_dfr]; exact r.dfr
  tm i := by
    rw [put_get a x v hn]
    by_cases h : i = x
    · rw [h, hx]; trivial
    · rw [if_neg h]; exact r.tm i
  bel := r.bel
  base := r.base
  box := r.box
  inj := r.inj
  lo := r.lo
  fr := r.fr
  pin := by rw [put_size]; exact r.pin
/-- A state in which all is only read, and beside it a row of one's own. -/
structure RB (B : Nat) (W : World) (n : Nat) (es : List D) (u : Value) (s : St) (a : Act) (w : World) : Prop where
  rel : Rel B w (fun _ => none) s a w (fun _ => none)
  row : RO w B cI es u
  size : a.tmps.size = n
  bel : Below B W w
theorem RB.slot (h : RB B W n es u s a w) {i : Nat} {x : D} (hi : s.t i = .d x) : a.eval (.tmp i) = x.val := by
  have := h.rel.tm i
  rw [hi] at this
  exact this.2
theorem RB.piece (h : RB B W n es u s a w) {K fn : Nat} {c : Code} {b : List Nat × List Nat} (hok : okCode Try.prog (env.dp fn) n c = true) (hev : fgt b (evC env (evF Try.prog env xf K) fn loopFuel c s) = some (.normal, s'))
    (hl : ∀ i, (s'.t i).low = true) {s'' : St} (he : s'' = ⟨s'.t, fun _ => none⟩) {Q : Exit → Act → World → Prop} (hQ : ∀ a' w', RB B W n es u s'' a' w' → Q .normal a' w') : c.wp Try.prog Q a w := by
  refine pieceR env_ok (hcallK K) hok hev h.rel h.size fun a' w' φ' r' hn' => hQ a' w' ⟨he ▸ r'.lower hl (fun _ _ => rfl) (Nat.le_refl _), ?_, hn', h.bel.trans r'.bel⟩
  obtain ⟨hg, e, ho⟩ := h.row
  exact ⟨hg, e, ownsRow_same ho fun g hg => r'.fr.keep g (ownsRow_lt ho hg).2 fun k e => by cases e⟩
theorem idx_run {t e : Nat} {ty te : Ty} (ht : env.ty t = some ty) (hk : ty.kd = .slice e) (hte : env.ty e = some te) {g off n cap i : Nat} (hi : i < n) (w : World) :
    (Instr.indexAt t (.slice (some ⟨g, off, none⟩) n cap) (.int .i64 (i : Int))).run Try.prog w = .ok (.pointer (some ⟨g, off + i * te.sh.size, none⟩)) w := by
  have hkd := (env_ok t ty ht).kd
  rw [hk] at hkd
  simp only [KdOK] at hkd
  have hsz := (env_ok e te hte).lies.sizeOf (P := Try.prog) w
  have c3 : (0 : Int) ≤ (i : Int) := by omega
  have c4 : (i : Int) < (n : Int) := by omega
  simp only [Instr.indexAt, asIntOf, Sem.run_bind, Sem.run_pure, Result.andThen_ok, run_underlying hkd, c3, c4, and_self, if_true, hsz, Sem.run_ite, Addr.add_mid, Int.toNat_natCast]
theorem idx_run1 {t e : Nat} {ty te : Ty} (ht : env.ty t = some ty) (hk : ty.kd = .slice e) (hte : env.ty e = some te) (hs : te.sh.size = 1) {g n cap i : Nat} (hi : i < n) (w : World) :
    (Instr.indexAt t (.slice (some ⟨g, 0, none⟩) n cap) (.int .i64 (i : Int))).run Try.prog w = .ok (.pointer (some ⟨g, i, none⟩)) w := by
  have := idx_run ht hk hte (g := g) (off := 0) (cap := cap) hi w
  rw [hs, Nat.mul_one, Nat.zero_add] at this
  exact this
end
end Go.Proofs.Ytfmbchnejelpkaa.Ev
