/-
  Each operation of the evaluator is what the model's operation does.
-/
import Derived.Test.YtjceimcepogkaaaGreatDoorEvD
namespace Go.Proofs.YtjceimcepogkaaaGreatDoor.Ev
open Go Go.RowKit

def Yields (P : Program) (o : Oper) (a : Act) (w : World) (R : Value → World → Prop) : Prop :=
  ∀ (K : Act → World → Prop) (Q : Exit → Act → World → Prop), (∀ u w', R u w' → K (a.put o.dst u) w') → o.wp P a w K Q

section
variable {P : Program} {E : Env} {B : Nat} {w0 : World} {φ0 : Nat → Option Nat} {s : St} {a : Act} {w w' : World} {φ φ' : Nat → Option Nat} {o : Oper} {m : Nat → Option Bk} {k : Nat}

theorem Yields.value {R : Value → World → Prop} {u : Value} (h : (execOp a.eval o).run P w = .ok (.value u) w') (hR : R u w') : Yields P o a w R :=
  fun K Q hK => by unfold Oper.wp; rw [h]; exact hK u w' hR

theorem Yields.mono {R R' : Value → World → Prop} (h : Yields P o a w R) (hr : ∀ u w', R u w' → R' u w') : Yields P o a w R' :=
  fun K Q hK => h K Q fun u w' hu => hK u w' (hr u w' hu)

theorem stay {v : V} {u : Value} (h : RT B m φ w v u) : StepOK B m φ w k v none u w φ := ⟨Below.refl _ _, rfl, h⟩

theorem stepD {x : D} (h : x.WF) : StepOK B m φ w k (.d x) none x.val w φ := stay ⟨h, rfl⟩

theorem Below.alloc1 (w : World) (ob : Obj) : Below w.heap.size w (w.alloc ob) := (Below.refl _ _).alloc (Nat.le_refl _) ob

theorem newBox (φ : Nat → Option Nat) {x : D} (hx : x.WF) (T : TypeId) : StepOK B m φ w k (.ptr k x.shape [] x.shape) (some (.box x)) (.pointer (some ⟨w.heap.size, 0, none⟩)) (w.alloc (.cells x.flat.toArray T)) (fun i => if i = k then some w.heap.size else φ i) := by
  refine ⟨Below.alloc1 _ _, fun k' hk' => if_neg hk', fun g hg => ?_, ?_, fun y hy => ?_⟩
  · simp at hg; subst hg; simp
  · refine ⟨x, w.heap.size, upd_same _ _ _, rfl, ?_, if_pos rfl, ?_⟩
    · cases x.shape <;> rfl
    · cases x.shape <;> rfl
  · cases hy
    exact ⟨hx, w.heap.size, T, if_pos rfl, heap_alloc_new w _⟩

theorem newRow0 (φ : Nat → Option Nat) (sh : Sh) : StepOK B m φ w k (.sl (.tg k) sh []) (some .row) (.slice none 0 0) w (fun i => if i = k then none else φ i) := by
  refine ⟨Below.refl _ _, fun k' hk' => if_neg hk', fun g hg => ?_, ⟨upd_same _ _ _, ⟨(fun x hx => by cases hx), 0, World.ownsRow_nil w B 0 sh.size⟩, (fun g hg => by simp [Value.ownBlock] at hg)⟩, fun y hy => by cases hy⟩
  simp at hg

theorem scal_some {x : Sem Value} {v : V} (h : scal x = some v) : ∃ y, x = .pure y ∧ y.oneCell' = true ∧ v = .d (.s y) := by
  cases x <;> simp only [scal] at h <;> first | cases h | skip
  rename_i y
  by_cases hy : y.oneCell' = true
  · rw [if_pos hy] at h; cases h; exact ⟨y, rfl, hy, rfl⟩
  · rw [if_neg hy] at h; cases h

theorem cst_sound {t : Nat} {c : Value} {v : V} (h : cst E t c = some v) : RT B m φ w v c := by
  unfold cst at h
  split at h
  · split at h
    · obtain ⟨te, _, h2⟩ := ob_eq_some h
      cases h2; exact ⟨rfl, rfl⟩
    · cases h
  · cases h; exact ⟨rfl, rfl⟩
  · cases h; exact ⟨rfl, rfl⟩
  · cases h; exact ⟨rfl, rfl⟩
  · cases h; exact ⟨rfl, rfl⟩
  · cases h; exact ⟨rfl, rfl⟩
  · cases h

theorem opd_sound (r : Rel B w0 φ0 s a w φ) {t : Nat} {x : Operand} {v : V} (h : opd E t s x = some v) : RT B s.m φ w v (a.eval x) := by
  cases x with
  | tmp i => simp only [opd] at h; cases h; exact r.tm i
  | const c => exact cst_sound h
  | global g => cases h
  | func f => simp only [opd] at h; cases h; exact ⟨rfl, rfl⟩

theorem evMove_sound (r : Rel B w0 φ0 s a w φ) {t : Nat} {x : Operand} {v : V} {b : Option Bk} (h : evMove E k t s x = some (v, b)) :
    ∃ φ', StepOK B s.m φ w k v b (a.eval x) w φ' := by
  unfold evMove at h
  split at h
  · split at h
    · obtain ⟨te, _, h2⟩ := ob_eq_some h
      cases h2; exact ⟨_, newRow0 φ _⟩
    · cases h
  · obtain ⟨v', h1, h2⟩ := ob_eq_some h
    cases h2; exact ⟨φ, stay (opd_sound r h1)⟩

theorem dat_some {v : V} {x : D} (h : v.dat = some x) : v = .d x := by cases v <;> simp [V.dat] at h; subst h; rfl

theorem pure1_some {v : Option V} {x : V} {b : Option Bk} (h : pure1 v = some (x, b)) : v = some x ∧ b = none := by
  obtain ⟨y, h1, h2⟩ := ob_eq_some h
  cases h2; exact ⟨h1, rfl⟩

theorem cells_at {w : World} {g o : Nat} {cs : Array Value} {T : TypeId} {fr : Nat × Nat} {l : List Value} (hg : w.heap[g]? = some (.cells cs T fr)) (h : ∀ j v, l[j]? = some v → cs[o + j]? = some v) :
    ∀ j v, l[j]? = some v → w.cell? ⟨g, o + j, none⟩ = some v := fun j v hj => by rw [cell_of_row w g (o + j) cs T fr hg]; exact h j v hj

/-- What a pointer's variable holds at the path. -/
theorem box_at (r : Rel B w0 φ0 s a w φ) {k : Nat} {x : D} {sh : Sh} {p : List Nat} {u : Sh} {v : Value} (hm : s.m k = some (.box x)) (h : RT B s.m φ w (.ptr k sh p u) v) :
    x.WF ∧ x.shape = sh ∧ sh.sub p = some u ∧ (x.get p).WF ∧ (x.get p).shape = u ∧ ∃ g T, φ k = some g ∧ v = .pointer (some ⟨g, sh.off p, none⟩) ∧ w.heap[g]? = some (.cells (x.flat ++ tl w0 g x.flat.length).toArray T (0, 0)) ∧
      ∀ j c, (x.get p).flat[j]? = some c → w.cell? ⟨g, sh.off p + j, none⟩ = some c := by
  obtain ⟨y, g, h1, h2, h3, h4, h5⟩ := h
  rw [hm] at h1; cases h1
  obtain ⟨hw, g', T, q1, q2⟩ := r.box k x hm
  rw [h4] at q1; cases q1
  obtain ⟨g1, g2, l, rr, e1, e2, _⟩ := x.at_path p u hw (by rw [h2]; exact h3)
  refine ⟨hw, h2, h3, g1, g2, g, T, h4, h5, q2, cells_at q2 fun j c hj => ?_⟩
  have hj' : j < (x.get p).flat.length := (List.getElem?_eq_some_iff.1 hj).1
  generalize tl w0 g x.flat.length = rest
  rw [e1, ← h2, ← e2]
  simp [List.getElem?_append_right, List.getElem?_append_left hj', hj]

theorem evLoad_sound (hE : EnvOK P E) (r : Rel B w0 φ0 s a w φ) {t : Nat} {x v : V} {u : Value} (hx : RT B s.m φ w x u) (h : evLoad E s.m t x = some v) :
    ∃ y : D, v = .d y ∧ y.WF ∧ (Instr.loadAt t u).run P w = .ok y.val w := by
  unfold evLoad at h
  split at h
  · rename_i k sh p u'
    obtain ⟨ty, ht, h⟩ := ob_eq_some h
    obtain ⟨b, hm, h⟩ := ob_eq_some h
    cases b with
    | row => cases h
    | box x =>
      simp only at h
      by_cases hu : u' = ty.sh
      · rw [if_pos hu] at h; cases h
        obtain ⟨h1, h2, h3, h4, h5, g, T, h6, rfl, h8, h9⟩ := box_at r hm hx
        refine ⟨_, rfl, h4, ?_⟩
        simp only [Instr.loadAt, Instr.sureAddr, Sem.run_bind, Sem.run_pure, Result.andThen_ok]
        exact run_load (hE t ty ht).lies h4 (h5.trans hu) h9
      · rw [if_neg hu] at h; cases h
  · rename_i o sh x
    obtain ⟨ty, ht, h⟩ := ob_eq_some h
    by_cases hu : sh = ty.sh
    · rw [if_pos hu] at h; cases h
      have key : x.WF ∧ x.shape = sh ∧ ∃ g off cs T fr, u = .pointer (some ⟨g, off, none⟩) ∧ w.heap[g]? = some (.cells cs T fr) ∧ ∀ j v, x.flat[j]? = some v → cs[off + j]? = some v := by
        cases o with
        | nil => exact hx.elim
        | ro => obtain ⟨h1, h2, g, off, cs, T, fr, _, h4, h5, h6⟩ := hx; exact ⟨h1, h2, g, off, cs, T, fr, h4, h5, h6⟩
        | tg k => obtain ⟨h1, h2, g, off, cs, T, fr, _, _, h4, h5, h6⟩ := hx; exact ⟨h1, h2, g, off, cs, T, fr, h4, h5, h6⟩
      obtain ⟨h1, h2, g, off, cs, T, fr, rfl, h5, h6⟩ := key
      refine ⟨_, rfl, h1, ?_⟩
      simp only [Instr.loadAt, Instr.sureAddr, Sem.run_bind, Sem.run_pure, Result.andThen_ok]
      exact run_load (hE t ty ht).lies h1 (h2.trans hu) (cells_at h5 h6)
    · rw [if_neg hu] at h; cases h
  · cases h

theorem flats_at {sh : Sh} {es : List D} (hg : Good sh es) {i : Nat} {x : D} (hi : es[i]? = some x) {j : Nat} {v : Value} (hj : x.flat[j]? = some v) : (flats es)[i * sh.size + j]? = some v := by
  induction es generalizing i with
  | nil => simp at hi
  | cons e es ih =>
    have he := hg e (by simp)
    have hl : e.flat.length = sh.size := by rw [e.flat_length he.1, he.2]
    cases i with
    | zero =>
      simp at hi; subst hi
      have : j < e.flat.length := (List.getElem?_eq_some_iff.1 hj).1
      simp [flats, List.getElem?_append_left this, hj]
    | succ i =>
      have := ih (fun y hy => hg y (by simp [hy])) (by simpa using hi)
      simp only [flats, List.flatMap_cons]
      rw [List.getElem?_append_right (by rw [hl, Nat.add_mul]; omega)]
      rw [← this, hl]
      congr 1
      rw [Nat.add_mul]; omega

theorem Sh.sub_nil (u : Sh) : u.sub [] = some u := by cases u <;> rfl
theorem Sh.off_nil (u : Sh) : u.off [] = 0 := by cases u <;> rfl

theorem evIndexAddr_sound (hE : EnvOK P E) {t : Nat} {x i v : V} {u ui : Value} (hx : RT B s.m φ w x u) (hi : RT B s.m φ w i ui) (h : evIndexAddr E t x i = some v) :
    ∃ u', RT B s.m φ w v u' ∧ (Instr.indexAt t u ui).run P w = .ok u' w := by
  unfold evIndexAddr at h
  split at h
  · rename_i k sh p l u' ik n
    obtain ⟨_, rfl⟩ := hi
    obtain ⟨ty, ht, h⟩ := ob_eq_some h
    split at h
    · rename_i len e hk
      obtain ⟨te, hte, h⟩ := ob_eq_some h
      by_cases hc : len = l ∧ te.sh = u' ∧ 0 ≤ n ∧ n < (l : Int)
      · rw [if_pos hc] at h; cases h
        obtain ⟨rfl, rfl, c3, c4⟩ := hc
        obtain ⟨y, g, h1, h2, h3, h4, rfl⟩ := hx
        have hkd := (hE t ty ht).kd
        rw [hk] at hkd
        simp only [KdOK] at hkd
        have hsz := (hE e te hte).lies.sizeOf (P := P) w
        have hlt : n.toNat < len := by omega
        obtain ⟨q1, q2⟩ := Sh.sub_append sh p [n.toNat] _ h3
        refine ⟨_, ⟨y, g, h1, h2, ?_, h4, rfl⟩, ?_⟩
        · rw [q1]; simp only [Sh.sub, hlt, if_true, Sh.sub_nil]
        · simp only [Instr.indexAt, D.val, asIntOf, Sem.run_bind, Sem.run_pure, Result.andThen_ok, run_underlying hkd.1, Instr.sureAddr, c3, c4, and_self, if_true, hsz, Sem.run_ite]
          rw [q2, Addr.add_mid]
          simp only [Sh.off, Sh.off_nil, Nat.add_zero]
      · rw [if_neg hc] at h; cases h
    · cases h
  · rename_i o sh es ik n
    obtain ⟨_, rfl⟩ := hi
    obtain ⟨ty, ht, h⟩ := ob_eq_some h
    split at h
    · rename_i e hk
      obtain ⟨te, hte, h⟩ := ob_eq_some h
      by_cases hc : te.sh = sh ∧ 0 ≤ n
      · rw [if_pos hc] at h
        obtain ⟨y, hy, h⟩ := ob_eq_some h
        cases h
        obtain ⟨rfl, c3⟩ := hc
        have hkd := (hE t ty ht).kd
        rw [hk] at hkd
        simp only [KdOK] at hkd
        have hsz := (hE e te hte).lies.sizeOf (P := P) w
        have hlt : n.toNat < es.length := (List.getElem?_eq_some_iff.1 hy).1
        have c4 : n < (es.length : Int) := by omega
        have key : ∀ (g off cap : Nat) (cs : Array Value) (T : TypeId) (fr : Nat × Nat), Good te.sh es → u = .slice (some ⟨g, off, none⟩) es.length cap → w.heap[g]? = some (.cells cs T fr) → (∀ j v, (flats es)[j]? = some v → cs[off + j]? = some v) →
            (Instr.indexAt t u (.int ik n)).run P w = .ok (.pointer (some ⟨g, off + n.toNat * te.sh.size, none⟩)) w ∧ y.WF ∧ y.shape = te.sh ∧ ∀ j v, y.flat[j]? = some v → cs[off + n.toNat * te.sh.size + j]? = some v := by
          intro g off cap cs T fr hg hu hh hcs
          refine ⟨?_, (hg y (List.mem_of_getElem? hy)).1, (hg y (List.mem_of_getElem? hy)).2, fun j v hj => ?_⟩
          · subst hu
            simp only [Instr.indexAt, asIntOf, Sem.run_bind, Sem.run_pure, Result.andThen_ok, run_underlying hkd, c3, c4, and_self, if_true, hsz, Sem.run_ite, Addr.add_mid]
          · rw [Nat.add_assoc]; exact hcs _ _ (flats_at hg hy hj)
        have hne : es ≠ [] := fun e => by rw [e] at hlt; simp at hlt
        cases o with
        | nil => exact absurd hx.1 hne
        | ro =>
          obtain ⟨hg, hx⟩ := hx
          rcases hx with ⟨he, _⟩ | ⟨g, off, cap, cs, T, fr, q1, _, q2, q3, q4⟩
          · exact absurd he hne
          · obtain ⟨k1, k2, k3, k4⟩ := key g off cap cs T fr hg q2 q3 q4
            exact ⟨_, ⟨k2, k3, g, _, cs, T, fr, q1, rfl, q3, k4⟩, k1⟩
        | tg k =>
          obtain ⟨hm, ⟨hg, e', hown⟩, hφ⟩ := hx
          rcases hown.2 with ⟨_, he⟩ | ⟨g, cap, cur, q1, _, q3, _, _, _, q4⟩
          · exact absurd (List.eq_nil_of_length_eq_zero he) hne
          · obtain ⟨k1, k2, k3, k4⟩ := key g 0 cap cur e' (0, 0) hg q1 q3 (fun j v hj => by
              rw [← q4, List.getElem?_take] at hj
              split at hj
              · simpa using hj
              · cases hj)
            exact ⟨_, ⟨k2, k3, g, _, cur, e', (0, 0), hm, hφ g (by rw [q1]; rfl), rfl, q3, k4⟩, k1⟩
      · rw [if_neg hc] at h; cases h
    · cases h
  · rename_i o l u' x ik n
    obtain ⟨_, rfl⟩ := hi
    obtain ⟨ty, ht, h⟩ := ob_eq_some h
    split at h
    · rename_i len e hk
      obtain ⟨te, hte, h⟩ := ob_eq_some h
      by_cases hc : len = l ∧ te.sh = u' ∧ 0 ≤ n ∧ n < (l : Int)
      · rw [if_pos hc] at h; cases h
        obtain ⟨rfl, rfl, c3, c4⟩ := hc
        have hkd := (hE t ty ht).kd
        rw [hk] at hkd
        simp only [KdOK] at hkd
        have hsz := (hE e te hte).lies.sizeOf (P := P) w
        have hlt : n.toNat < len := by omega
        have key : ∀ (g off : Nat) (cs : Array Value), x.WF → x.shape = .arr len te.sh → (∀ j v, x.flat[j]? = some v → cs[off + j]? = some v) →
            (Instr.indexAt t (.pointer (some ⟨g, off, none⟩)) (.int ik n)).run P w = .ok (.pointer (some ⟨g, off + n.toNat * te.sh.size, none⟩)) w ∧ (x.get [n.toNat]).WF ∧ (x.get [n.toNat]).shape = te.sh ∧
              ∀ i v, (x.get [n.toNat]).flat[i]? = some v → cs[off + n.toNat * te.sh.size + i]? = some v := by
          intro g off cs hw hs hcs
          obtain ⟨g1, g2, l, rr, e1, e2, _⟩ := x.at_path [n.toNat] te.sh hw (by rw [hs]; simp only [Sh.sub, hlt, if_true, Sh.sub_nil])
          have e3 : l.length = n.toNat * te.sh.size := by rw [e2, hs]; simp [Sh.off, Sh.off_nil]
          refine ⟨?_, g1, g2, fun i v hi => ?_⟩
          · simp only [Instr.indexAt, asIntOf, Sem.run_bind, Sem.run_pure, Result.andThen_ok, run_underlying hkd.1, Instr.sureAddr, c3, c4, and_self, if_true, hsz, Sem.run_ite, Addr.add_mid]
          · have hi' : i < (x.get [n.toNat]).flat.length := (List.getElem?_eq_some_iff.1 hi).1
            rw [Nat.add_assoc]
            refine hcs _ _ ?_
            rw [e1, ← e3]
            simp [List.getElem?_append_right, List.getElem?_append_left hi', hi]
        cases o with
        | nil => exact hx.elim
        | ro =>
          obtain ⟨h1, h2, g, off, cs, T, fr, h3, rfl, h5, h6⟩ := hx
          obtain ⟨k1, k2, k3, k4⟩ := key g off cs h1 h2 h6
          exact ⟨_, ⟨k2, k3, g, _, cs, T, fr, h3, rfl, h5, k4⟩, k1⟩
        | tg k =>
          obtain ⟨h1, h2, g, off, cs, T, fr, h3, h3', rfl, h5, h6⟩ := hx
          obtain ⟨k1, k2, k3, k4⟩ := key g off cs h1 h2 h6
          exact ⟨_, ⟨k2, k3, g, _, cs, T, fr, h3, h3', rfl, h5, k4⟩, k1⟩
      · rw [if_neg hc] at h; cases h
    · cases h
  · rename_i k l u' ik n
    obtain ⟨_, rfl⟩ := hi
    obtain ⟨ty, ht, h⟩ := ob_eq_some h
    split at h
    · rename_i e hk
      obtain ⟨te, hte, h⟩ := ob_eq_some h
      by_cases hc : te.sh = u' ∧ 0 ≤ n ∧ n < (l : Int)
      · rw [if_pos hc] at h; cases h
        obtain ⟨rfl, c3, c4⟩ := hc
        have hkd := (hE t ty ht).kd
        rw [hk] at hkd
        simp only [KdOK] at hkd
        have hsz := (hE e te hte).lies.sizeOf (P := P) w
        have hlt : n.toNat < l := by omega
        obtain ⟨x, g, cap, h1, h2, h3, rfl⟩ := hx
        refine ⟨_, ⟨x, g, h1, h2, by simp only [Sh.sub, hlt, if_true, Sh.sub_nil], h3, rfl⟩, ?_⟩
        simp only [Instr.indexAt, D.val, asIntOf, Sem.run_bind, Sem.run_pure, Result.andThen_ok, run_underlying hkd, c3, c4, and_self, if_true, hsz, Sem.run_ite, Addr.add_mid, Sh.off, Sh.off_nil, Nat.add_zero, Nat.zero_add]
      · rw [if_neg hc] at h; cases h
    · cases h
  · cases h

theorem evFieldAddr_sound (hE : EnvOK P E) {t j : Nat} {x v : V} {u : Value} (hx : RT B s.m φ w x u) (h : evFieldAddr E t j x = some v) :
    ∃ u', RT B s.m φ w v u' ∧ (Instr.fieldAt t u j).run P w = .ok u' w := by
  unfold evFieldAddr at h
  split at h
  · rename_i k sh p u'
    obtain ⟨ty, ht, h⟩ := ob_eq_some h
    split at h
    · rename_i fl hk
      by_cases hc : u' = ty.sh
      · rw [if_pos hc] at h
        obtain ⟨u'', hu, h⟩ := ob_eq_some h
        by_cases hz : u''.size ≠ 0
        · rw [if_pos hz] at h; cases h
          subst hc
          obtain ⟨y, g, h1, h2, h3, h4, rfl⟩ := hx
          have hkd := (hE t ty ht).kd
          rw [hk] at hkd
          obtain ⟨fs, hfs, hf⟩ := hkd
          obtain ⟨f, hf1, hf2, hf3⟩ := hf.to j u'' hu
          obtain ⟨q1, q2⟩ := Sh.sub_append sh p [j] _ h3
          refine ⟨_, ⟨y, g, h1, h2, q1.trans hu, h4, rfl⟩, ?_⟩
          simp only [Instr.fieldAt, Sem.run_bind, run_underlying hfs, Result.andThen_ok, hf1, Instr.sureAddr, Sem.run_pure, fieldPlace, hf3.sizeOf w, hz, if_false, Sem.run_ite, Addr.add_mid, hf2, q2]
        · rw [if_neg hz] at h; cases h
      · rw [if_neg hc] at h; cases h
    · cases h
  · rename_i o sh x
    obtain ⟨ty, ht, h⟩ := ob_eq_some h
    split at h
    · rename_i fl hk
      by_cases hc : sh = ty.sh
      · rw [if_pos hc] at h
        obtain ⟨u'', hu, h⟩ := ob_eq_some h
        by_cases hz : u''.size ≠ 0
        · rw [if_pos hz] at h; cases h
          subst hc
          have hkd := (hE t ty ht).kd
          rw [hk] at hkd
          obtain ⟨fs, hfs, hf⟩ := hkd
          obtain ⟨f, hf1, hf2, hf3⟩ := hf.to j u'' hu
          have key : ∀ (g off : Nat) (cs : Array Value), x.WF → x.shape = ty.sh → (∀ j v, x.flat[j]? = some v → cs[off + j]? = some v) →
              (Instr.fieldAt t (.pointer (some ⟨g, off, none⟩)) j).run P w = .ok (.pointer (some ⟨g, off + ty.sh.off [j], none⟩)) w ∧ (x.get [j]).WF ∧ (x.get [j]).shape = u'' ∧ ∀ i v, (x.get [j]).flat[i]? = some v → cs[off + ty.sh.off [j] + i]? = some v := by
            intro g off cs hw hs hcs
            obtain ⟨g1, g2, l, rr, e1, e2, _⟩ := x.at_path [j] u'' hw (by rw [hs]; exact hu)
            refine ⟨?_, g1, g2, fun i v hi => ?_⟩
            · simp only [Instr.fieldAt, Sem.run_bind, run_underlying hfs, Result.andThen_ok, hf1, Instr.sureAddr, Sem.run_pure, fieldPlace, hf3.sizeOf w, hz, if_false, Sem.run_ite, Addr.add_mid, hf2]
            · have hi' : i < (x.get [j]).flat.length := (List.getElem?_eq_some_iff.1 hi).1
              rw [Nat.add_assoc]
              refine hcs _ _ ?_
              rw [e1, ← hs, ← e2]
              simp [List.getElem?_append_right, List.getElem?_append_left hi', hi]
          cases o with
          | nil => exact hx.elim
          | ro =>
            obtain ⟨h1, h2, g, off, cs, T, fr, h3, rfl, h5, h6⟩ := hx
            obtain ⟨k1, k2, k3, k4⟩ := key g off cs h1 h2 h6
            exact ⟨_, ⟨k2, k3, g, _, cs, T, fr, h3, rfl, h5, k4⟩, k1⟩
          | tg k =>
            obtain ⟨h1, h2, g, off, cs, T, fr, h3, h3', rfl, h5, h6⟩ := hx
            obtain ⟨k1, k2, k3, k4⟩ := key g off cs h1 h2 h6
            exact ⟨_, ⟨k2, k3, g, _, cs, T, fr, h3, h3', rfl, h5, k4⟩, k1⟩
        · rw [if_neg hz] at h; cases h
      · rw [if_neg hc] at h; cases h
    · cases h
  · cases h

theorem evIndex_sound (hE : EnvOK P E) {t : Nat} {x i v : V} {u ui : Value} (hx : RT B s.m φ w x u) (hi : RT B s.m φ w i ui) (h : evIndex E t x i = some v) :
    ∃ y : D, v = .d y ∧ y.WF ∧ (Instr.index t u ui).run P w = .ok y.val w := by
  unfold evIndex at h
  split at h
  · rename_i n sh f ik i
    obtain ⟨_, rfl⟩ := hi
    obtain ⟨hw, rfl⟩ := hx
    obtain ⟨ty, ht, h⟩ := ob_eq_some h
    split at h
    · rename_i len e hk
      obtain ⟨te, hte, h⟩ := ob_eq_some h
      by_cases hc : len = n ∧ ty.sh = .arr n sh ∧ te.sh = sh ∧ 0 ≤ i ∧ i < (n : Int)
      · rw [if_pos hc] at h; cases h
        obtain ⟨rfl, c1, rfl, c3, c4⟩ := hc
        have hkd := (hE t ty ht).kd
        rw [hk] at hkd
        simp only [KdOK] at hkd
        have hlies := (hE e te hte).lies
        have hsz := hlies.sizeOf (P := P) w
        have hlt : i.toNat < len := by omega
        refine ⟨_, rfl, (hw _).1, ?_⟩
        obtain ⟨g1, g2, l, rr, e1, e2, _⟩ := (D.arr len te.sh f).at_path [i.toNat] te.sh hw (by simp only [D.shape, Sh.sub, hlt, if_true, Sh.sub_nil])
        simp only [Instr.index, D.val, asIntOf, Sem.run_bind, Sem.run_pure, Result.andThen_ok, run_underlying hkd.1, c3, c4, and_self, if_true, hsz, Sem.run_ite]
        rw [e1]
        simp only [D.get_arr, D.get_nil] at g1 g2 ⊢
        exact run_part hlies g1 g2 (by rw [e2]; simp [D.shape, Sh.off, Sh.off_nil])
      · rw [if_neg hc] at h; cases h
    · cases h
  · rename_i b ik i
    obtain ⟨_, rfl⟩ := hi
    obtain ⟨_, rfl⟩ := hx
    obtain ⟨ty, ht, h⟩ := ob_eq_some h
    split at h
    · rename_i hk
      by_cases hc : 0 ≤ i
      · rw [if_pos hc] at h
        obtain ⟨c, hb, h⟩ := ob_eq_some h
        cases h
        have hkd := (hE t ty ht).kd
        rw [hk] at hkd
        simp only [KdOK] at hkd
        refine ⟨_, rfl, rfl, ?_⟩
        simp only [Instr.index, D.val, asIntOf, Sem.run_bind, Sem.run_pure, Result.andThen_ok, run_underlying hkd, hc, if_true, hb]
      · rw [if_neg hc] at h; cases h
    · cases h
  · cases h

theorem evField_sound (hE : EnvOK P E) {t j : Nat} {x v : V} {u : Value} (hx : RT B s.m φ w x u) (h : evField E t j x = some v) :
    ∃ y : D, v = .d y ∧ y.WF ∧ (Instr.field t u j).run P w = .ok y.val w := by
  unfold evField at h
  split at h
  · rename_i x
    obtain ⟨hw, rfl⟩ := hx
    obtain ⟨ty, ht, h⟩ := ob_eq_some h
    split at h
    · rename_i fl hk
      by_cases hc : x.shape = ty.sh
      · rw [if_pos hc] at h
        obtain ⟨u', hu, h⟩ := ob_eq_some h
        cases h
        have hkd := (hE t ty ht).kd
        rw [hk] at hkd
        obtain ⟨fs, hfs, hf⟩ := hkd
        obtain ⟨f, hf1, hf2, hf3⟩ := hf.to j u' hu
        obtain ⟨g1, g2, l, rr, e1, e2, _⟩ := x.at_path [j] u' hw (by rw [hc]; exact hu)
        have hagg : x.shape.isAgg = true := by
          rw [hc]; cases hs : ty.sh <;> simp_all [Sh.sub, Sh.isAgg]
        refine ⟨_, rfl, g1, ?_⟩
        simp only [Instr.field, Sem.run_bind, run_underlying hfs, Result.andThen_ok, hf1, val_agg hagg, asAgg, Sem.run_pure]
        rw [e1]
        exact run_part hf3 g1 g2 (by rw [e2, hc, hf2])
      · rw [if_neg hc] at h; cases h
    · cases h
  · cases h
end
end Go.Proofs.YtjceimcepogkaaaGreatDoor.Ev
