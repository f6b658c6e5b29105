/- fingerpostref27.Ways: what it computes. -/
import Derived.Test.YtfbaikkadndckaaKf
import Derived.Test.YtfbaikkadndckaaEvH
import Derived.Test.YtfbaikkadndckaaFacts
import Derived.Test.YtfbaikkadndckaaXo
namespace Go.Proofs.Ytfbaikkadndckaa.Ev
open Go
attribute [local congr] ob_congr sq_congr cd_congr ite_congr1 iter_congr it1_congr jumps_congr
set_option maxRecDepth 100000
set_option linter.unusedSimpArgs false
set_option linter.unusedVariables false
open Go.RowKit
theorem hcallX : ∀ g l r, evF Try.prog env xt 9 g l = some r → CallOK Try.prog g l r := evF_sound env_ok fns_ok (ext := xt) xt_ok 9
section
variable {w w' : World} {B : Nat} {sh : Sh} {es : List D} {u : Value}
theorem RO.rs (h : RO w B sh es u) : RS w w.heap.size sh es u := by
  obtain ⟨hg, e, ho⟩ := h
  refine ⟨hg, ?_⟩
  rcases ho.2 with ⟨h1, h2⟩ | ⟨g, cap, cur, q1, _, q3, qc, _, _, q4⟩
  · exact .inl ⟨List.eq_nil_of_length_eq_zero h2, h1⟩
  · exact .inr ⟨g, 0, cap, cur, e, (0, 0), lt_of_heap q3, qc, q1, q3, fun j v hj => by
      rw [← q4, List.getElem?_take] at hj
      split at hj
      · simpa using hj
      · cases hj⟩
theorem RO.one (h : RO w B sh es u) : u.oneCell' = true := by
  obtain ⟨hg, e, ho⟩ := h
  rcases ho.2 with ⟨rfl, _⟩ | ⟨g, cap, cur, rfl, _⟩ <;> rfl
theorem RO.lo {B' : Nat} (h : RO w B' sh es u) (hB : B ≤ B') : RO w B sh es u := by
  obtain ⟨hg, e, ho, h2⟩ := h
  refine ⟨hg, e, ho, ?_⟩
  rcases h2 with h2 | ⟨g, cap, cur, q1, q2, q3⟩
  · exact .inl h2
  · exact .inr ⟨g, cap, cur, q1, Nat.le_trans hB q2, q3⟩
theorem RO.below (h : RO w B sh es u) (hb : Below w.heap.size w w') : RO w' B sh es u := by
  obtain ⟨hg, e, ho⟩ := h
  exact ⟨hg, e, ownsRow_same ho fun g hg => hb.block g (ownsRow_lt ho hg).2⟩
end
/-- A state in which all is only read, and beside it a row of one's own. -/
structure WR (W : World) (es : List D) (u : Value) (n : Nat) (s : St) (a : Act) (w : World) : Prop where
  rel : Rel w.heap.size w (fun _ => none) s a w (fun _ => none)
  row : RO w W.heap.size shW es u
  size : a.tmps.size = n
  bel : Below W.heap.size W w
section
variable {W w : World} {es : List D} {u : Value} {n : Nat} {s s' s'' : St} {a : Act}
theorem WR.slot (h : WR W es u n s a w) {i : Nat} {x : D} (hi : s.t i = .d x) : a.eval (.tmp i) = x.val := by
  have := h.rel.tm i
  rw [hi] at this
  exact this.2
theorem WR.piece (h : WR W es u n s a w) {fn : Nat} {c : Code} {b : List Nat × List Nat} (hok : okCode Try.prog (env.dp fn) n c = true) (hev : fgt b (evC env (evF Try.prog env xt 9) fn loopFuel c s) = some (.normal, s'))
    (he : s'.anew b.1 = s'') {Q : Exit → Act → World → Prop} (hQ : ∀ a' w', WR W es u n s'' a' w' → Q .normal a' w') : c.wp Try.prog Q a w := by
  refine pieceR env_ok hcallX hok hev h.rel h.size fun a' w' φ' r' hn' => hQ a' w' ⟨he ▸ r'.rebase b.1, h.row.below r'.bel, hn', h.bel.trans (r'.bel.mono h.bel.size)⟩
theorem WR.forget (h : WR W es u n s a w) {b : List Nat × List Nat} (hb : s.forget b = some s') : WR W es u n s' a w := ⟨forget_sound h.rel hb, h.row, h.size, h.bel⟩
/-- A piece that makes the row anew. -/
theorem WR.piece2 {i : Nat} (h : WR W es u n s a w) {s1 : St} {es' : List D} {S : Value → St} (hs1 : ∀ j, j ≠ i → s1.t j = s.t j) (hi1 : s1.t i = .sl .ro shW es) (hm1 : s1.m = s.m) (hi : s.t i = .d (.s u)) {fn : Nat} {c : Code} {b : List Nat × List Nat} (hok : okCode Try.prog (env.dp fn) n c = true)
    (hev : fgt b (evC env (evF Try.prog env xt 9) fn loopFuel c s1) = some (.normal, s')) {k : Nat} (hi' : s'.t i = .sl (.tg k) shW es')
    (he : ∀ u', (∀ j, j ≠ i → (S u').t j = (s'.anew b.1).t j) ∧ (S u').t i = .d (.s u') ∧ (S u').m = (s'.anew b.1).m) {Q : Exit → Act → World → Prop} (hQ : ∀ u' a' w', WR W es' u' n (S u') a' w' → Q .normal a' w') : c.wp Try.prog Q a w := by
  have hu : a.tmps.getD i undef = u := by
    have := h.rel.tm i
    rw [hi] at this
    exact this.2
  have r1 : Rel w.heap.size w (fun _ => none) s1 a w (fun _ => none) := h.rel.see (i := i) (v := .sl .ro shW es) (by rw [hu]; exact h.row.rs) hs1 hi1 hm1
  refine pieceR env_ok hcallX hok hev r1 h.size fun a' w' φ' r' hn' => ?_
  have q := r'.tm i
  rw [hi'] at q
  obtain ⟨_, q2, _⟩ := q
  obtain ⟨e1, e2, e3⟩ := he (a'.tmps.getD i undef)
  exact hQ (a'.tmps.getD i undef) a' w' ⟨(r'.rebase b.1).see (i := i) (v := .d (.s (a'.tmps.getD i undef))) ⟨q2.one, rfl⟩ e1 e2 e3, q2.lo h.bel.size, hn', h.bel.trans (r'.bel.mono h.bel.size)⟩
end
end Go.Proofs.Ytfbaikkadndckaa.Ev
