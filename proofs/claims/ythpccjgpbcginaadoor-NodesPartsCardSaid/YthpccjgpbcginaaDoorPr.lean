/- nodes.Parse: a text as a set of nodes, by a range over a string: what it answers. -/
import Derived.Test.YthpccjgpbcginaaDoorNz
import Derived.Test.YthpccjgpbcginaaDoorEvH
import Derived.Test.YthpccjgpbcginaaDoorFacts
import Derived.Laws.RangeString
namespace Go.Proofs.YthpccjgpbcginaaDoor.Ev
open Go
attribute [local congr] ob_congr sq_congr cd_congr ite_congr1 iter_congr it1_congr jumps_congr
set_option maxRecDepth 100000
set_option linter.unusedSimpArgs false
set_option linter.unusedVariables false
open Go.RowKit
abbrev ptrI (g : Nat) : Value := .pointer (some ⟨g, 0, none⟩)
theorem hcallP : ∀ g l r, evF Tryd.prog env noext 9 g l = some r → CallOK Tryd.prog g l r := evF_sound env_ok fns_ok (fun _ _ _ h => by cases h) 9
section
variable {B : Nat} {W : World} {g : Nat} {b : ByteArray} {pos : Nat} {s s' : St} {a a' : Act} {w w' : World} {φ φ' : Nat → Option Nat}
structure HI (B : Nat) (W : World) (g : Nat) (b : ByteArray) (pos : Nat) (s : St) (a : Act) (w : World) : Prop where
  ex : ∃ φ, Rel B w φ s a w φ ∧ w.heap[g]? = some (.stringIter b pos) ∧ B ≤ g ∧ ∀ k, φ k ≠ some g
  size : a.tmps.size = 31
  bel : Below B W w
theorem HI.of (r : Rel B w φ s' a' w' φ') (hn : a'.tmps.size = 31) (hb : Below B W w) (hg : w.heap[g]? = some (.stringIter b pos)) (hB : B ≤ g) (h1 : ∀ k, φ k ≠ some g) : HI B W g b pos s' a' w' := by
  have hlt := lt_of_heap hg
  refine ⟨⟨φ', r.re, (r.fr.keep g hlt h1).trans hg, hB, fun k e => ?_⟩, hn, hb.trans r.bel⟩
  rcases r.fr.src k g e with ⟨k', q⟩ | q
  · exact h1 k' q
  · omega
theorem HI.forget (h : HI B W g b pos s a w) {q : List Nat × List Nat} (hb : s.forget q = some s') : HI B W g b pos s' a w := by
  obtain ⟨⟨φ, r, h1, h2, h3⟩, hn, hb'⟩ := h
  exact ⟨⟨φ, forget_sound r hb, h1, h2, h3⟩, hn, hb'⟩
theorem HI.slot (h : HI B W g b pos s a w) {i : Nat} {x : D} (hi : s.t i = .d x) : a.eval (.tmp i) = x.val := by
  obtain ⟨⟨φ, r, _⟩, _⟩ := h
  have := r.tm i
  rw [hi] at this
  exact this.2
theorem HI.piece (h : HI B W g b pos s a w) {c : Code} {q : List Nat × List Nat} (hok : okCode Tryd.prog (env.dp 19) 31 c = true)
    (hev : fgt q (evC env (evF Tryd.prog env noext 9) 19 loopFuel c s) = some (.normal, s')) {Q : Exit → Act → World → Prop} (hQ : ∀ a' w', HI B W g b pos s' a' w' → Q .normal a' w') : c.wp Tryd.prog Q a w := by
  obtain ⟨⟨φ, r, h1, h2, h3⟩, hn, hb⟩ := h
  exact pieceR env_ok hcallP hok hev r hn fun a' w' φ' r' hn' => hQ a' w' (HI.of r' hn' hb h1 h2 h3)
theorem run_next_some {P : Program} {ty : TypeId} (h : w.heap[g]? = some (.stringIter b pos)) (hp : pos < b.size) :
    (Instr.next (ptrI g) true ty).run P w = .ok (.tuple #[.bool true, .int .i64 pos, .int .i32 (Utf8.decode b pos).1]) { w with heap := w.heap.setIfInBounds g (.stringIter b (pos + (Utf8.decode b pos).2)) } := by
  simp only [Instr.next, getObj, setObj, Sem.run_bind, Sem.run, h, Result.andThen, hp, if_true]
  simp [goInt, Sem.run, h]
theorem run_next_none {P : Program} {ty : TypeId} (h : w.heap[g]? = some (.stringIter b pos)) (hp : ¬ pos < b.size) :
    (Instr.next (ptrI g) true ty).run P w = .ok (.tuple #[.bool false]) w := by
  simp [Instr.next, getObj, Sem.run, h, hp]
abbrev tupV (pos : Nat) (c : Nat) : V := .tcons (.d (.s (.bool (true)))) (.tcons (.d (.s (.int .i64 (pos)))) (.tcons (.d (.s (.int .i32 c))) .tnil))
theorem HI.next (h : HI B W g b pos s a w) (hf : ∀ i, (s.t i).free = true) (h11 : s.t 11 = .d (.s (ptrI g))) (hp : pos < b.size) {t1 t2 id : Nat} {p1 p2 : String} {a1 a2 : Array Edge} {Q : Exit → Act → World → Prop}
    (hQ : ∀ a' w', HI B W g b (pos + (Utf8.decode b pos).2) ((s.app (some 12) (tupV pos (Utf8.decode b pos).1) none).app (some 13) (.d (.s (.bool (true)))) none) a' w' → Q .normal a' w') :
    (Code.region id #[⟨some 12, .next (.tmp 11) true, t1, p1, a1, none⟩, ⟨some 13, .extract (.tmp 12) 0, t2, p2, a2, none⟩] false).wp Tryd.prog Q a w := by
  obtain ⟨⟨φ, r, hg, hB, h3⟩, hn, hb⟩ := h
  have e11 : a.eval (.tmp 11) = ptrI g := by
    have := r.tm 11
    rw [h11] at this
    exact this.2
  refine wp_region ?_
  show wpOps _ _ _ [0, 1] a w
  refine wpOps_cons (o := ⟨some 12, .next (.tmp 11) true, t1, p1, a1, none⟩) rfl rfl ?_
  generalize hw1 : ({ w with heap := w.heap.setIfInBounds g (.stringIter b (pos + (Utf8.decode b pos).2)) } : World) = w1
  have hlt := lt_of_heap hg
  have oth : ∀ x, x ≠ g → w1.heap[x]? = w.heap[x]? := fun x hx => by
    subst hw1
    show (w.heap.setIfInBounds g _)[x]? = _
    rw [Array.getElem?_setIfInBounds_ne (Ne.symm hx)]
  have hsz : w1.heap.size = w.heap.size := by subst hw1; simp
  have hg1 : w1.heap[g]? = some (.stringIter b (pos + (Utf8.decode b pos).2)) := by
    subst hw1
    show (w.heap.setIfInBounds g _)[g]? = _
    simp [hlt]
  have bel1 : Below B w w1 := by
    refine ⟨by subst hw1; rfl, by subst hw1; rfl, by subst hw1; rfl, by omega, fun x hx => oth x (by omega), by subst hw1; exact Nat.le_refl _⟩
  refine Yields.value (u := .tuple #[.bool true, .int .i64 pos, .int .i32 (Utf8.decode b pos).1]) (w' := w1) (R := fun x y => x = .tuple #[.bool true, .int .i64 pos, .int .i32 (Utf8.decode b pos).1] ∧ y = w1) ?_ ⟨rfl, rfl⟩ _ _ (fun x y hxy => ?_)
  · show ((do let v ← Instr.next (a.eval (.tmp 11)) true t1; pure (.value v) : Sem Next)).run Tryd.prog w = _
    rw [e11]
    simp only [Sem.run_bind, run_next_some (P := Tryd.prog) (ty := t1) hg hp, hw1, Result.andThen_ok]
    rfl
  obtain ⟨rfl, rfl⟩ := hxy
  have r1 : Rel B y φ s a y φ := r.anew hf (fun k x hx => oth x fun e => h3 k (e ▸ hx)) (by omega)
  obtain ⟨φ2, r2⟩ := r1.app (some 12) (v := tupV pos (Utf8.decode b pos).1) (b := none) (u := .tuple #[.bool true, .int .i64 pos, .int .i32 (Utf8.decode b pos).1]) (w' := y) (φ' := φ) (stay ⟨_, rfl, _, _, rfl, ⟨rfl, rfl⟩, _, _, rfl, ⟨rfl, rfl⟩, _, _, rfl, ⟨rfl, rfl⟩, rfl⟩) (fun k hk => by cases hk; omega)
  have hi2 := HI.of r2 (by rw [put_size]; exact hn) (hb.trans bel1) hg1 hB h3
  obtain ⟨⟨φ3, r3, q1, q2, q3⟩, hn3, hb3⟩ := hi2
  refine wpOps_cons (o := ⟨some 13, .extract (.tmp 12) 0, t2, p2, a2, none⟩) rfl rfl ?_
  refine Yields.value (u := .bool true) (w' := y) (R := fun x z => x = .bool true ∧ z = y) ?_ ⟨rfl, rfl⟩ _ _ (fun x z hxz => ?_)
  · have e12 : (a.put (some 12) (.tuple #[.bool true, .int .i64 pos, .int .i32 (Utf8.decode b pos).1])).eval (.tmp 12) = .tuple #[.bool true, .int .i64 pos, .int .i32 (Utf8.decode b pos).1] := by
      show (a.put (some 12) _).tmps.getD 12 undef = _
      rw [put_get a 12 _ (by omega), if_pos rfl]
    show ((do let v ← Instr.extract ((a.put (some 12) (.tuple #[.bool true, .int .i64 pos, .int .i32 (Utf8.decode b pos).1])).eval (.tmp 12)) 0; pure (.value v) : Sem Next)).run Tryd.prog y = _
    rw [e12]
    simp [Instr.extract]
  obtain ⟨rfl, rfl⟩ := hxz
  obtain ⟨φ4, r4⟩ := r3.app (some 13) (v := .d (.s (.bool (true)))) (b := none) (u := .bool true) (w' := z) (φ' := φ3) (stay ⟨rfl, rfl⟩) (fun k hk => by cases hk; rw [put_size]; omega)
  exact hQ _ _ (HI.of r4 (by rw [put_size, put_size]; exact hn) hb3 q1 q2 q3)
theorem HI.over (h : HI B W g b pos s a w) (h11 : s.t 11 = .d (.s (ptrI g))) (hp : ¬ pos < b.size) {t1 t2 id : Nat} {p1 p2 : String} {a1 a2 : Array Edge} {Q : Exit → Act → World → Prop}
    (hQ : ∀ a' w', HI B W g b pos ((s.app (some 12) (.tcons (.d (.s (.bool (false)))) .tnil) none).app (some 13) (.d (.s (.bool (false)))) none) a' w' → Q .normal a' w') :
    (Code.region id #[⟨some 12, .next (.tmp 11) true, t1, p1, a1, none⟩, ⟨some 13, .extract (.tmp 12) 0, t2, p2, a2, none⟩] false).wp Tryd.prog Q a w := by
  obtain ⟨⟨φ, r, hg, hB, h3⟩, hn, hb⟩ := h
  have e11 : a.eval (.tmp 11) = ptrI g := by
    have := r.tm 11
    rw [h11] at this
    exact this.2
  refine wp_region ?_
  show wpOps _ _ _ [0, 1] a w
  refine wpOps_cons (o := ⟨some 12, .next (.tmp 11) true, t1, p1, a1, none⟩) rfl rfl ?_
  refine Yields.value (u := .tuple #[.bool false]) (w' := w) (R := fun x y => x = .tuple #[.bool false] ∧ y = w) ?_ ⟨rfl, rfl⟩ _ _ (fun x y hxy => ?_)
  · show ((do let v ← Instr.next (a.eval (.tmp 11)) true t1; pure (.value v) : Sem Next)).run Tryd.prog w = _
    rw [e11]
    simp only [Sem.run_bind, run_next_none (P := Tryd.prog) (ty := t1) hg hp, Result.andThen_ok]
    rfl
  obtain ⟨rfl, rfl⟩ := hxy
  obtain ⟨φ2, r2⟩ := r.app (some 12) (v := .tcons (.d (.s (.bool (false)))) .tnil) (b := none) (u := .tuple #[.bool false]) (w' := y) (φ' := φ) (stay ⟨_, rfl, _, _, rfl, ⟨rfl, rfl⟩, rfl⟩) (fun k hk => by cases hk; omega)
  have hi2 := HI.of r2 (by rw [put_size]; exact hn) hb hg hB h3
  obtain ⟨⟨φ3, r3, q1, q2, q3⟩, hn3, hb3⟩ := hi2
  refine wpOps_cons (o := ⟨some 13, .extract (.tmp 12) 0, t2, p2, a2, none⟩) rfl rfl ?_
  refine Yields.value (u := .bool false) (w' := y) (R := fun x z => x = .bool false ∧ z = y) ?_ ⟨rfl, rfl⟩ _ _ (fun x z hxz => ?_)
  · have e12 : (a.put (some 12) (.tuple #[.bool false])).eval (.tmp 12) = .tuple #[.bool false] := by
      show (a.put (some 12) _).tmps.getD 12 undef = _
      rw [put_get a 12 _ (by omega), if_pos rfl]
    show ((do let v ← Instr.extract ((a.put (some 12) (.tuple #[.bool false])).eval (.tmp 12)) 0; pure (.value v) : Sem Next)).run Tryd.prog y = _
    rw [e12]
    simp [Instr.extract]
  obtain ⟨rfl, rfl⟩ := hxz
  obtain ⟨φ4, r4⟩ := r3.app (some 13) (v := .d (.s (.bool (false)))) (b := none) (u := .bool false) (w' := z) (φ' := φ3) (stay ⟨rfl, rfl⟩) (fun k hk => by cases hk; rw [put_size]; omega)
  exact hQ _ _ (HI.of r4 (by rw [put_size, put_size]; exact hn) hb3 q1 q2 q3)
end
noncomputable def roundP : Code := match Tryd.f19.body with
  | some (.seq _ (.seq _ (.seq _ (.seq (.seq _ (.block _ (.loop c))) _)))) => c
  | _ => .skip
abbrev P0 (g : Nat) (set last : Int) : St := ⟨tab .junk [(4, .d (.s (.int .i64 (set)))), (5, .d (.s (.int .i32 last))), (11, .d (.s (ptrI g)))], tab none []⟩
abbrev P1 (g : Nat) (set last : Int) (v : V) (q : Bool) : St := ⟨tab .junk [(4, .d (.s (.int .i64 (set)))), (5, .d (.s (.int .i32 last))), (11, .d (.s (ptrI g))), (12, v), (13, .d (.s (.bool (q))))], tab none []⟩
abbrev P6 (g : Nat) (set last : Int) (c : Nat) : St := ⟨tab .junk [(4, .d (.s (.int .i64 (set)))), (5, .d (.s (.int .i32 last))), (7, .d (.s (.int .i32 c))), (11, .d (.s (ptrI g)))], tab none []⟩
abbrev P7 (g : Nat) (set last : Int) (c : Nat) (q : Bool) : St := ⟨tab .junk [(4, .d (.s (.int .i64 (set)))), (5, .d (.s (.int .i32 last))), (7, .d (.s (.int .i32 c))), (11, .d (.s (ptrI g))), (21, .d (.s (.bool (q))))], tab none []⟩
abbrev P8 (x y : Int) : St := ⟨tab .junk [(2, .d (.s (.int .i64 (x)))), (3, .d (.s (.int .i64 (y))))], tab none []⟩
theorem free_tab : ∀ (l : List (Nat × V)), (l.all fun p => p.2.free) = true → ∀ i, (tab V.junk l i).free = true
  | [], _, _ => rfl
  | (k, v) :: l, h, i => by
    simp only [List.all_cons, Bool.and_eq_true] at h
    simp only [tab]
    split
    · exact h.1
    · exact free_tab l h.2 i
theorem width_pos (b : ByteArray) (pos : Nat) : 1 ≤ (Utf8.decode b pos).2 := by
  unfold Utf8.decode
  simp only []
  repeat' split
  all_goals simp
theorem wrap32 (k : Nat) (h : k < 16) : IntKind.i32.wrap (k : Int) = k := by
  have : ∀ k, k < 16 → IntKind.i32.wrap ((k : Nat) : Int) = k := by decide
  exact this k h
theorem parseGo_succ (b : ByteArray) (n pos : Nat) (set last : Int) : parseGo b (n + 1) pos set last = if pos < b.size then (if (((Utf8.decode b pos).1 : Nat) : Int) ≤ last ∨ 112 < (((Utf8.decode b pos).1 : Nat) : Int) then (0, 3) else parseGo b n (pos + (Utf8.decode b pos).2) (withN set ((((Utf8.decode b pos).1 : Nat) : Int) - 97)) ((Utf8.decode b pos).1 : Nat)) else (if set = 0 then (0, 3) else (set, 0)) := rfl
theorem rounds_parse {B : Nat} {W : World} {g : Nat} {b : ByteArray} {Q : Exit → Act → World → Prop} {res : Int × Int}
    (hE : ∀ pos set last v a w, (if set = 0 then ((0 : Int), (3 : Int)) else (set, 0)) = res → HI B W g b pos (P1 g set last v false) a w → Q (.exit 0) a w)
    (hR : ∀ pos a w, ((0 : Int), (3 : Int)) = res → HI B W g b pos (P8 0 3) a w → Q .ret a w) :
    ∀ (n pos : Nat) (set last : Int) a w, b.size ≤ pos + n → 96 ≤ last → parseGo b n pos set last = res → HI B W g b pos (P0 g set last) a w → Code.rounds Tryd.prog roundP Q (n + 1) a w
  | n, pos, set, last, a, w, hn, h96, hres, h => by
    rw [rounds_succ]
    refine wp_seq ?_
    by_cases hp : pos < b.size
    · obtain ⟨n, rfl⟩ : ∃ m, n = m + 1 := ⟨n - 1, by omega⟩
      rw [parseGo_succ, if_pos hp] at hres
      have hw := width_pos b pos
      refine h.next (free_tab _ rfl) rfl hp fun a w h => ?_
      have h := h.forget (q := ([4, 5, 11, 12, 13], [])) (s' := P1 g set last (tupV pos (Utf8.decode b pos).1) true) (by simp (decide := true) only [tupV, Tryd.f19, rid, kl19_5, ↓sBp, sBq, List.all_cons, List.all_nil, List.map_cons, List.map_nil, D.shape, Sh.sub, Sh.size, List.getElem?_cons_zero, List.getElem?_cons_succ, Option.bind_some, Option.bind_none, Option.getD_some, Option.getD_none, V.keysIn, V.kill, V.has, decide_eq_true_eq, beq_iff_eq, bne_iff_ne, ne_eq, Bool.not_eq_true', Bool.and_true, Bool.and_self, Bool.true_and, if_true, if_false, reduceIte, Bool.false_eq_true, decide_true, decide_false, beq_self_eq_true, Bool.not_true, Bool.not_false, true_and, and_true, and_self, List.append_assoc, List.nil_append, List.cons_append, Int.toNat_natCast, ck, Int.cast_ofNat_Int, Int.reduceToNat, bne_self_eq_false, Bool.or_false, Bool.false_or, Bool.false_and, Bool.and_false, Bool.or_true, Bool.true_or])
      generalize (Utf8.decode b pos).1 = c at hres h
      generalize (Utf8.decode b pos).2 = wd at hres h hw
      refine wp_seq ?_
      refine wp_cond_true (h.slot (i := 13) rfl) (wp_skip ?_)
      refine wp_block ?_
      refine wp_seq ?_
      refine h.piece (q := ([4, 5, 7, 11], [])) (s' := P6 g set last c) (by kernel_rfl) ?e1 (fun a w h => ?_)
      case e1 => simp (decide := true) only [tupV, Tryd.f19, rid, kl19_5, ↓sBp, sBq, List.all_cons, List.all_nil, List.map_cons, List.map_nil, D.shape, Sh.sub, Sh.size, List.getElem?_cons_zero, List.getElem?_cons_succ, Option.bind_some, Option.bind_none, Option.getD_some, Option.getD_none, V.keysIn, V.kill, V.has, decide_eq_true_eq, beq_iff_eq, bne_iff_ne, ne_eq, Bool.not_eq_true', Bool.and_true, Bool.and_self, Bool.true_and, if_true, if_false, reduceIte, Bool.false_eq_true, decide_true, decide_false, beq_self_eq_true, Bool.not_true, Bool.not_false, true_and, and_true, and_self, List.append_assoc, List.nil_append, List.cons_append, Int.toNat_natCast, ck, Int.cast_ofNat_Int, Int.reduceToNat, bne_self_eq_false, Bool.or_false, Bool.false_or, Bool.false_and, Bool.and_false, Bool.or_true, Bool.true_or]
      refine wp_seq ?_
      refine wp_seq ?_
      by_cases h1 : (c : Int) ≤ last ∨ 112 < (c : Int)
      · rw [if_pos h1] at hres
        refine h.piece (q := ([4, 5, 7, 11, 21], [])) (s' := P7 g set last c true) (by kernel_rfl) ?e2 (fun a w h => ?_)
        case e2 =>
          by_cases h2 : (c : Int) ≤ last
          · simp (decide := true) only [h2, Tryd.f19, rid, kl19_5, ↓sBp, sBq, List.all_cons, List.all_nil, List.map_cons, List.map_nil, D.shape, Sh.sub, Sh.size, List.getElem?_cons_zero, List.getElem?_cons_succ, Option.bind_some, Option.bind_none, Option.getD_some, Option.getD_none, V.keysIn, V.kill, V.has, decide_eq_true_eq, beq_iff_eq, bne_iff_ne, ne_eq, Bool.not_eq_true', Bool.and_true, Bool.and_self, Bool.true_and, if_true, if_false, reduceIte, Bool.false_eq_true, decide_true, decide_false, beq_self_eq_true, Bool.not_true, Bool.not_false, true_and, and_true, and_self, List.append_assoc, List.nil_append, List.cons_append, Int.toNat_natCast, ck, Int.cast_ofNat_Int, Int.reduceToNat, bne_self_eq_false, Bool.or_false, Bool.false_or, Bool.false_and, Bool.and_false, Bool.or_true, Bool.true_or]
          · have h3 := h1.resolve_left h2
            simp (decide := true) only [h2, h3, Tryd.f19, rid, kl19_5, ↓sBp, sBq, List.all_cons, List.all_nil, List.map_cons, List.map_nil, D.shape, Sh.sub, Sh.size, List.getElem?_cons_zero, List.getElem?_cons_succ, Option.bind_some, Option.bind_none, Option.getD_some, Option.getD_none, V.keysIn, V.kill, V.has, decide_eq_true_eq, beq_iff_eq, bne_iff_ne, ne_eq, Bool.not_eq_true', Bool.and_true, Bool.and_self, Bool.true_and, if_true, if_false, reduceIte, Bool.false_eq_true, decide_true, decide_false, beq_self_eq_true, Bool.not_true, Bool.not_false, true_and, and_true, and_self, List.append_assoc, List.nil_append, List.cons_append, Int.toNat_natCast, ck, Int.cast_ofNat_Int, Int.reduceToNat, bne_self_eq_false, Bool.or_false, Bool.false_or, Bool.false_and, Bool.and_false, Bool.or_true, Bool.true_or]
        refine wp_cond_true (h.slot (i := 21) rfl) ?_
        refine wp_seq ?_
        refine h.piece (q := ([2, 3], [])) (s' := P8 0 3) (by kernel_rfl) ?e3 (fun a w h => ?_)
        case e3 => simp (decide := true) only [Tryd.f19, rid, kl19_5, ↓sBp, sBq, List.all_cons, List.all_nil, List.map_cons, List.map_nil, D.shape, Sh.sub, Sh.size, List.getElem?_cons_zero, List.getElem?_cons_succ, Option.bind_some, Option.bind_none, Option.getD_some, Option.getD_none, V.keysIn, V.kill, V.has, decide_eq_true_eq, beq_iff_eq, bne_iff_ne, ne_eq, Bool.not_eq_true', Bool.and_true, Bool.and_self, Bool.true_and, if_true, if_false, reduceIte, Bool.false_eq_true, decide_true, decide_false, beq_self_eq_true, Bool.not_true, Bool.not_false, true_and, and_true, and_self, List.append_assoc, List.nil_append, List.cons_append, Int.toNat_natCast, ck, Int.cast_ofNat_Int, Int.reduceToNat, bne_self_eq_false, Bool.or_false, Bool.false_or, Bool.false_and, Bool.and_false, Bool.or_true, Bool.true_or]
        exact wp_ret (hR _ a w hres h)
      · rw [if_neg h1] at hres
        have h2 : ¬ (c : Int) ≤ last := fun q => h1 (Or.inl q)
        have h3 : ¬ 112 < (c : Int) := fun q => h1 (Or.inr q)
        refine h.piece (q := ([4, 5, 7, 11, 21], [])) (s' := P7 g set last c false) (by kernel_rfl) ?e4 (fun a w h => ?_)
        case e4 => simp (decide := true) only [h2, h3, Tryd.f19, rid, kl19_5, ↓sBp, sBq, List.all_cons, List.all_nil, List.map_cons, List.map_nil, D.shape, Sh.sub, Sh.size, List.getElem?_cons_zero, List.getElem?_cons_succ, Option.bind_some, Option.bind_none, Option.getD_some, Option.getD_none, V.keysIn, V.kill, V.has, decide_eq_true_eq, beq_iff_eq, bne_iff_ne, ne_eq, Bool.not_eq_true', Bool.and_true, Bool.and_self, Bool.true_and, if_true, if_false, reduceIte, Bool.false_eq_true, decide_true, decide_false, beq_self_eq_true, Bool.not_true, Bool.not_false, true_and, and_true, and_self, List.append_assoc, List.nil_append, List.cons_append, Int.toNat_natCast, ck, Int.cast_ofNat_Int, Int.reduceToNat, bne_self_eq_false, Bool.or_false, Bool.false_or, Bool.false_and, Bool.and_false, Bool.or_true, Bool.true_or]
        refine wp_cond_false (h.slot (i := 21) rfl) (wp_skip ?_)
        obtain ⟨m, hm⟩ : ∃ m : Nat, c = m + 97 := ⟨c - 97, by omega⟩
        have hc : (c : Int) - 97 = (m : Int) := by omega
        have w1 := wrap32 m (by omega)
        have w2 : IntKind.i64.wrap (m : Int) = m := wrap_id ⟨by omega, by omega⟩
        refine h.piece (q := ([4, 5, 11], [])) (s' := P0 g (withN set ((c : Int) - 97)) c) (by kernel_rfl) ?e5 (fun a w h => ?_)
        case e5 => simp (decide := true) only [hc, w1, w2, with_ev0, Tryd.f19, rid, kl19_5, ↓sBp, sBq, List.all_cons, List.all_nil, List.map_cons, List.map_nil, D.shape, Sh.sub, Sh.size, List.getElem?_cons_zero, List.getElem?_cons_succ, Option.bind_some, Option.bind_none, Option.getD_some, Option.getD_none, V.keysIn, V.kill, V.has, decide_eq_true_eq, beq_iff_eq, bne_iff_ne, ne_eq, Bool.not_eq_true', Bool.and_true, Bool.and_self, Bool.true_and, if_true, if_false, reduceIte, Bool.false_eq_true, decide_true, decide_false, beq_self_eq_true, Bool.not_true, Bool.not_false, true_and, and_true, and_self, List.append_assoc, List.nil_append, List.cons_append, Int.toNat_natCast, ck, Int.cast_ofNat_Int, Int.reduceToNat, bne_self_eq_false, Bool.or_false, Bool.false_or, Bool.false_and, Bool.and_false, Bool.or_true, Bool.true_or]
        exact rounds_parse hE hR n (pos + wd) _ c a w (by omega) (by omega) hres h
    · have hres' : (if set = 0 then ((0 : Int), (3 : Int)) else (set, 0)) = res := by
        cases n with
        | zero => exact hres
        | succ n => rw [parseGo_succ, if_neg hp] at hres; exact hres
      refine h.over rfl hp fun a w h => ?_
      have h := h.forget (q := ([4, 5, 11, 12, 13], [])) (s' := P1 g set last (.tcons (.d (.s (.bool (false)))) .tnil) false) (by simp (decide := true) only [Tryd.f19, rid, kl19_5, ↓sBp, sBq, List.all_cons, List.all_nil, List.map_cons, List.map_nil, D.shape, Sh.sub, Sh.size, List.getElem?_cons_zero, List.getElem?_cons_succ, Option.bind_some, Option.bind_none, Option.getD_some, Option.getD_none, V.keysIn, V.kill, V.has, decide_eq_true_eq, beq_iff_eq, bne_iff_ne, ne_eq, Bool.not_eq_true', Bool.and_true, Bool.and_self, Bool.true_and, if_true, if_false, reduceIte, Bool.false_eq_true, decide_true, decide_false, beq_self_eq_true, Bool.not_true, Bool.not_false, true_and, and_true, and_self, List.append_assoc, List.nil_append, List.cons_append, Int.toNat_natCast, ck, Int.cast_ofNat_Int, Int.reduceToNat, bne_self_eq_false, Bool.or_false, Bool.false_or, Bool.false_and, Bool.and_false, Bool.or_true, Bool.true_or])
      refine wp_seq ?_
      exact wp_cond_false (h.slot (i := 13) rfl) (wp_exit (hE _ _ _ _ a w hres' h))
termination_by n => n
theorem parseFn : ∃ fn, Tryd.prog.funcs[19]? = some fn ∧ fn.body.isNone = false ∧ (fn.name == "runtime.NumGoroutine") = false := ⟨Tryd.f19, Tryd.func19, by kernel_rfl, by kernel_rfl⟩
/-- What is answered, once both slots are there. -/
theorem parse_end {W : World} {φ0 φ : Nat → Option Nat} {w0 : World} {x y : Int} {a : Act} {w : World} (r : Rel W.heap.size w0 φ0 (P8 x y) a w φ) (hb : Below W.heap.size W w) :
    a.defers = [] ∧ ∃ v, (results Tryd.f19 a.tmps).run Tryd.prog w = .ok v w ∧ ∃ u, Ending.returned v = .returned u ∧ Below W.heap.size W w ∧ RR w W.heap.size (.tcons (.d (.s (.int .i64 (x)))) (.tcons (.d (.s (.int .i64 (y)))) .tnil)) u := by
  obtain ⟨u, q1, q2⟩ := resF_sound env_ok r (fn := Tryd.f19) (v := .tcons (.d (.s (.int .i64 (x)))) (.tcons (.d (.s (.int .i64 (y)))) .tnil)) (by
    rw [show Tryd.f19.results.toList = [.tmp 2, .tmp 3] from rfl]; rfl)
  exact ⟨r.dfr, u, q1, u, rfl, hb, q2⟩
theorem parse_ok (b : ByteArray) : CallOK Tryd.prog 19 [.d (.s (.string b))] (.tcons (.d (dI (parseF b).1)) (.tcons (.d (dI (parseF b).2)) .tnil)) := by
  refine ⟨parseFn, fun W vs hra => ?_⟩
  have hl := (RA_at hra).1
  refine calls_of_wp Tryd.func19 rfl ?_
  have r0 := enter_rel hra 31
  have hn0 : ({ tmps := vs.toArray ++ Array.replicate (31 - vs.toArray.size) undef, defers := [] } : Act).tmps.size = 31 := by simp at hl ⊢; omega
  refine wp_seq ?_
  refine pieceR (b := ([0], [])) (s' := ⟨tab .junk [(0, .d (.s (.string b)))], tab none []⟩) (fn := 19) (lf := loopFuel) env_ok hcallP (by kernel_rfl) ?e1 r0 hn0 (fun a w φ r hn => ?_)
  case e1 => simp (decide := true) only [Tryd.f19, rid, kl19_5, ↓sBp, sBq, List.all_cons, List.all_nil, List.map_cons, List.map_nil, D.shape, Sh.sub, Sh.size, List.getElem?_cons_zero, List.getElem?_cons_succ, Option.bind_some, Option.bind_none, Option.getD_some, Option.getD_none, V.keysIn, V.kill, V.has, decide_eq_true_eq, beq_iff_eq, bne_iff_ne, ne_eq, Bool.not_eq_true', Bool.and_true, Bool.and_self, Bool.true_and, if_true, if_false, reduceIte, Bool.false_eq_true, decide_true, decide_false, beq_self_eq_true, Bool.not_true, Bool.not_false, true_and, and_true, and_self, List.append_assoc, List.nil_append, List.cons_append, Int.toNat_natCast, ck, Int.cast_ofNat_Int, Int.reduceToNat, bne_self_eq_false, Bool.or_false, Bool.false_or, Bool.false_and, Bool.and_false, Bool.or_true, Bool.true_or]
  refine wp_seq ?_
  refine wp_seq ?_
  by_cases hdot : (b == (⟨#[46]⟩ : ByteArray)) = true
  · refine pieceR (b := ([0, 9], [])) (s' := ⟨tab .junk [(0, .d (.s (.string b))), (9, .d (.s (.bool (true))))], tab none []⟩) (fn := 19) (lf := loopFuel) env_ok hcallP (by kernel_rfl) ?e2 r hn (fun a w φ r hn => ?_)
    case e2 => simp (decide := true) only [hdot, Tryd.f19, rid, kl19_5, ↓sBp, sBq, List.all_cons, List.all_nil, List.map_cons, List.map_nil, D.shape, Sh.sub, Sh.size, List.getElem?_cons_zero, List.getElem?_cons_succ, Option.bind_some, Option.bind_none, Option.getD_some, Option.getD_none, V.keysIn, V.kill, V.has, decide_eq_true_eq, beq_iff_eq, bne_iff_ne, ne_eq, Bool.not_eq_true', Bool.and_true, Bool.and_self, Bool.true_and, if_true, if_false, reduceIte, Bool.false_eq_true, decide_true, decide_false, beq_self_eq_true, Bool.not_true, Bool.not_false, true_and, and_true, and_self, List.append_assoc, List.nil_append, List.cons_append, Int.toNat_natCast, ck, Int.cast_ofNat_Int, Int.reduceToNat, bne_self_eq_false, Bool.or_false, Bool.false_or, Bool.false_and, Bool.and_false, Bool.or_true, Bool.true_or]
    have e9 : a.eval (.tmp 9) = .bool true := (r.tm 9).2
    refine wp_cond_true e9 ?_
    refine wp_seq ?_
    refine pieceR (b := ([2, 3], [])) (s' := P8 0 0) (fn := 19) (lf := loopFuel) env_ok hcallP (by kernel_rfl) ?e3 r hn (fun a w φ r hn => ?_)
    case e3 => simp (decide := true) only [Tryd.f19, rid, kl19_5, ↓sBp, sBq, List.all_cons, List.all_nil, List.map_cons, List.map_nil, D.shape, Sh.sub, Sh.size, List.getElem?_cons_zero, List.getElem?_cons_succ, Option.bind_some, Option.bind_none, Option.getD_some, Option.getD_none, V.keysIn, V.kill, V.has, decide_eq_true_eq, beq_iff_eq, bne_iff_ne, ne_eq, Bool.not_eq_true', Bool.and_true, Bool.and_self, Bool.true_and, if_true, if_false, reduceIte, Bool.false_eq_true, decide_true, decide_false, beq_self_eq_true, Bool.not_true, Bool.not_false, true_and, and_true, and_self, List.append_assoc, List.nil_append, List.cons_append, Int.toNat_natCast, ck, Int.cast_ofNat_Int, Int.reduceToNat, bne_self_eq_false, Bool.or_false, Bool.false_or, Bool.false_and, Bool.and_false, Bool.or_true, Bool.true_or]
    have ep : parseF b = (0, 0) := by unfold parseF; rw [if_pos hdot]
    rw [ep]
    exact wp_ret (parse_end r r.bel)
  · have hdot : (b == (⟨#[46]⟩ : ByteArray)) = false := by simpa using hdot
    refine pieceR (b := ([0, 9], [])) (s' := ⟨tab .junk [(0, .d (.s (.string b))), (9, .d (.s (.bool (false))))], tab none []⟩) (fn := 19) (lf := loopFuel) env_ok hcallP (by kernel_rfl) ?e4 r hn (fun a w φ r hn => ?_)
    case e4 => simp (decide := true) only [hdot, Tryd.f19, rid, kl19_5, ↓sBp, sBq, List.all_cons, List.all_nil, List.map_cons, List.map_nil, D.shape, Sh.sub, Sh.size, List.getElem?_cons_zero, List.getElem?_cons_succ, Option.bind_some, Option.bind_none, Option.getD_some, Option.getD_none, V.keysIn, V.kill, V.has, decide_eq_true_eq, beq_iff_eq, bne_iff_ne, ne_eq, Bool.not_eq_true', Bool.and_true, Bool.and_self, Bool.true_and, if_true, if_false, reduceIte, Bool.false_eq_true, decide_true, decide_false, beq_self_eq_true, Bool.not_true, Bool.not_false, true_and, and_true, and_self, List.append_assoc, List.nil_append, List.cons_append, Int.toNat_natCast, ck, Int.cast_ofNat_Int, Int.reduceToNat, bne_self_eq_false, Bool.or_false, Bool.false_or, Bool.false_and, Bool.and_false, Bool.or_true, Bool.true_or]
    have e9 : a.eval (.tmp 9) = .bool false := (r.tm 9).2
    refine wp_cond_false e9 (wp_skip ?_)
    have ep : parseF b = parseGo b b.size 0 0 96 := by unfold parseF; rw [if_neg (by simp [hdot])]
    rw [ep]
    refine wp_seq ?_
    refine pieceR (b := ([0, 4, 5], [])) (s' := ⟨tab .junk [(0, .d (.s (.string b))), (4, .d (.s (.int .i64 (0)))), (5, .d (.s (.int .i32 96)))], tab none []⟩) (fn := 19) (lf := loopFuel) env_ok hcallP (by kernel_rfl) ?e5 r hn (fun a w φ r hn => ?_)
    case e5 => simp (decide := true) only [Tryd.f19, rid, kl19_5, ↓sBp, sBq, List.all_cons, List.all_nil, List.map_cons, List.map_nil, D.shape, Sh.sub, Sh.size, List.getElem?_cons_zero, List.getElem?_cons_succ, Option.bind_some, Option.bind_none, Option.getD_some, Option.getD_none, V.keysIn, V.kill, V.has, decide_eq_true_eq, beq_iff_eq, bne_iff_ne, ne_eq, Bool.not_eq_true', Bool.and_true, Bool.and_self, Bool.true_and, if_true, if_false, reduceIte, Bool.false_eq_true, decide_true, decide_false, beq_self_eq_true, Bool.not_true, Bool.not_false, true_and, and_true, and_self, List.append_assoc, List.nil_append, List.cons_append, Int.toNat_natCast, ck, Int.cast_ofNat_Int, Int.reduceToNat, bne_self_eq_false, Bool.or_false, Bool.false_or, Bool.false_and, Bool.and_false, Bool.or_true, Bool.true_or]
    refine wp_seq ?_
    refine wp_seq ?_
    refine wp_region ?_
    show wpOps _ _ _ [0, 1] a w
    refine wpOps_cons rfl rfl ?_
    refine Yields.value (u := .string b) (w' := w) (R := fun x y => x = .string b ∧ y = w) ?_ ⟨rfl, rfl⟩ _ _ (fun x y hxy => ?_)
    · have e0 : a.eval (.tmp 0) = .string b := (r.tm 0).2
      show ((pure (.value (a.eval (.tmp 0))) : Sem Next)).run Tryd.prog w = _
      rw [e0]; rfl
    obtain ⟨rfl, rfl⟩ := hxy
    obtain ⟨φ1, r1⟩ := r.app (some 10) (v := .d (.s (.string b))) (b := none) (u := .string b) (w' := y) (φ' := φ) (stay ⟨rfl, rfl⟩) (fun k hk => by cases hk; omega)
    refine wpOps_cons rfl rfl ?_
    have hu : Tryd.prog.underlying 9 = some .string := by
      have := (env_ok.ty 9 _ rfl).kd
      exact this
    refine Yields.value (u := ptrI y.heap.size) (w' := y.iter b 0) (R := fun x z => x = ptrI y.heap.size ∧ z = y.iter b 0) ?_ ⟨rfl, rfl⟩ _ _ (fun x z hxz => ?_)
    · have e10 : (a.put (some 10) (.string b)).eval (.tmp 10) = .string b := by
        show (a.put (some 10) _).tmps.getD 10 undef = _
        rw [put_get a 10 _ (by omega), if_pos rfl]
      show ((do let v ← Instr.range 9 ((a.put (some 10) (.string b)).eval (.tmp 10)); pure (.value v) : Sem Next)).run Tryd.prog y = _
      rw [e10]
      simp only [Sem.run_bind, run_range_string y 9 b hu, Result.andThen_ok]
      rfl
    obtain ⟨rfl, rfl⟩ := hxz
    have r2 := (r1.grow (w' := y.iter b 0) (Below.alloc1 y _)).re
    obtain ⟨φ3, r3⟩ := r2.app (some 11) (v := .d (.s (ptrI y.heap.size))) (b := none) (u := ptrI y.heap.size) (w' := y.iter b 0) (φ' := φ1) (stay ⟨rfl, rfl⟩) (fun k hk => by cases hk; rw [put_size]; omega)
    have hi : HI W.heap.size W y.heap.size b 0 (P0 y.heap.size 0 96) ((a.put (some 10) (.string b)).put (some 11) (ptrI y.heap.size)) (y.iter b 0) := by
      refine HI.forget (q := ([4, 5, 11], [])) (HI.of r3 (by rw [put_size, put_size]; exact hn) (r1.grow (w' := y.iter b 0) (Below.alloc1 y _)).bel (World.iter_heap y b 0) r.base fun k e => ?_) ?_
      · have := (r1.lo k _ e).2; omega
      · simp (decide := true) only [Tryd.f19, rid, kl19_5, ↓sBp, sBq, List.all_cons, List.all_nil, List.map_cons, List.map_nil, D.shape, Sh.sub, Sh.size, List.getElem?_cons_zero, List.getElem?_cons_succ, Option.bind_some, Option.bind_none, Option.getD_some, Option.getD_none, V.keysIn, V.kill, V.has, decide_eq_true_eq, beq_iff_eq, bne_iff_ne, ne_eq, Bool.not_eq_true', Bool.and_true, Bool.and_self, Bool.true_and, if_true, if_false, reduceIte, Bool.false_eq_true, decide_true, decide_false, beq_self_eq_true, Bool.not_true, Bool.not_false, true_and, and_true, and_self, List.append_assoc, List.nil_append, List.cons_append, Int.toNat_natCast, ck, Int.cast_ofNat_Int, Int.reduceToNat, bne_self_eq_false, Bool.or_false, Bool.false_or, Bool.false_and, Bool.and_false, Bool.or_true, Bool.true_or]
    show ((Code.block _ (Code.loop _))).wp _ _ _ _
    refine wp_block (wp_loop_rounds (b.size + 1) (rounds_parse (B := W.heap.size) (W := W) (g := y.heap.size) (b := b) (res := parseGo b b.size 0 0 96) ?hE ?hR b.size 0 0 96 _ _ (by omega) (by omega) rfl hi))
    case hR =>
      intro pos a w hres h
      obtain ⟨⟨φ', r', _⟩, _, hb⟩ := h
      rw [← hres]
      exact parse_end r' hb
    case hE =>
      intro pos set last v a w hres h
      rw [← hres]
      show (Code.seq _ _).wp _ _ a w
      refine wp_seq ?_
      refine wp_seq ?_
      by_cases h0 : set = 0
      · rw [if_pos h0]
        refine h.piece (q := ([4, 29], [])) (s' := ⟨tab .junk [(4, .d (.s (.int .i64 (set)))), (29, .d (.s (.bool (true))))], tab none []⟩) (by kernel_rfl) ?e6 (fun a w h => ?_)
        case e6 => simp (decide := true) only [h0, Tryd.f19, rid, kl19_5, ↓sBp, sBq, List.all_cons, List.all_nil, List.map_cons, List.map_nil, D.shape, Sh.sub, Sh.size, List.getElem?_cons_zero, List.getElem?_cons_succ, Option.bind_some, Option.bind_none, Option.getD_some, Option.getD_none, V.keysIn, V.kill, V.has, decide_eq_true_eq, beq_iff_eq, bne_iff_ne, ne_eq, Bool.not_eq_true', Bool.and_true, Bool.and_self, Bool.true_and, if_true, if_false, reduceIte, Bool.false_eq_true, decide_true, decide_false, beq_self_eq_true, Bool.not_true, Bool.not_false, true_and, and_true, and_self, List.append_assoc, List.nil_append, List.cons_append, Int.toNat_natCast, ck, Int.cast_ofNat_Int, Int.reduceToNat, bne_self_eq_false, Bool.or_false, Bool.false_or, Bool.false_and, Bool.and_false, Bool.or_true, Bool.true_or]
        refine wp_cond_true (h.slot (i := 29) rfl) ?_
        refine wp_seq ?_
        refine h.piece (q := ([2, 3], [])) (s' := P8 0 3) (by kernel_rfl) ?e7 (fun a w h => ?_)
        case e7 => simp (decide := true) only [Tryd.f19, rid, kl19_5, ↓sBp, sBq, List.all_cons, List.all_nil, List.map_cons, List.map_nil, D.shape, Sh.sub, Sh.size, List.getElem?_cons_zero, List.getElem?_cons_succ, Option.bind_some, Option.bind_none, Option.getD_some, Option.getD_none, V.keysIn, V.kill, V.has, decide_eq_true_eq, beq_iff_eq, bne_iff_ne, ne_eq, Bool.not_eq_true', Bool.and_true, Bool.and_self, Bool.true_and, if_true, if_false, reduceIte, Bool.false_eq_true, decide_true, decide_false, beq_self_eq_true, Bool.not_true, Bool.not_false, true_and, and_true, and_self, List.append_assoc, List.nil_append, List.cons_append, Int.toNat_natCast, ck, Int.cast_ofNat_Int, Int.reduceToNat, bne_self_eq_false, Bool.or_false, Bool.false_or, Bool.false_and, Bool.and_false, Bool.or_true, Bool.true_or]
        obtain ⟨⟨φ', r', _⟩, _, hb⟩ := h
        exact wp_ret (parse_end r' hb)
      · rw [if_neg h0]
        refine h.piece (q := ([4, 29], [])) (s' := ⟨tab .junk [(4, .d (.s (.int .i64 (set)))), (29, .d (.s (.bool (false))))], tab none []⟩) (by kernel_rfl) ?e8 (fun a w h => ?_)
        case e8 =>
          have h0b : (set == 0) = false := by simpa using h0
          simp (decide := true) only [h0b, Tryd.f19, rid, kl19_5, ↓sBp, sBq, List.all_cons, List.all_nil, List.map_cons, List.map_nil, D.shape, Sh.sub, Sh.size, List.getElem?_cons_zero, List.getElem?_cons_succ, Option.bind_some, Option.bind_none, Option.getD_some, Option.getD_none, V.keysIn, V.kill, V.has, decide_eq_true_eq, beq_iff_eq, bne_iff_ne, ne_eq, Bool.not_eq_true', Bool.and_true, Bool.and_self, Bool.true_and, if_true, if_false, reduceIte, Bool.false_eq_true, decide_true, decide_false, beq_self_eq_true, Bool.not_true, Bool.not_false, true_and, and_true, and_self, List.append_assoc, List.nil_append, List.cons_append, Int.toNat_natCast, ck, Int.cast_ofNat_Int, Int.reduceToNat, bne_self_eq_false, Bool.or_false, Bool.false_or, Bool.false_and, Bool.and_false, Bool.or_true, Bool.true_or]
        refine wp_cond_false (h.slot (i := 29) rfl) (wp_skip ?_)
        refine wp_seq ?_
        refine h.piece (q := ([2, 3], [])) (s' := P8 set 0) (by kernel_rfl) ?e9 (fun a w h => ?_)
        case e9 => simp (decide := true) only [Tryd.f19, rid, kl19_5, ↓sBp, sBq, List.all_cons, List.all_nil, List.map_cons, List.map_nil, D.shape, Sh.sub, Sh.size, List.getElem?_cons_zero, List.getElem?_cons_succ, Option.bind_some, Option.bind_none, Option.getD_some, Option.getD_none, V.keysIn, V.kill, V.has, decide_eq_true_eq, beq_iff_eq, bne_iff_ne, ne_eq, Bool.not_eq_true', Bool.and_true, Bool.and_self, Bool.true_and, if_true, if_false, reduceIte, Bool.false_eq_true, decide_true, decide_false, beq_self_eq_true, Bool.not_true, Bool.not_false, true_and, and_true, and_self, List.append_assoc, List.nil_append, List.cons_append, Int.toNat_natCast, ck, Int.cast_ofNat_Int, Int.reduceToNat, bne_self_eq_false, Bool.or_false, Bool.false_or, Bool.false_and, Bool.and_false, Bool.or_true, Bool.true_or]
        obtain ⟨⟨φ', r', _⟩, _, hb⟩ := h
        exact wp_ret (parse_end r' hb)
end Go.Proofs.YthpccjgpbcginaaDoor.Ev
