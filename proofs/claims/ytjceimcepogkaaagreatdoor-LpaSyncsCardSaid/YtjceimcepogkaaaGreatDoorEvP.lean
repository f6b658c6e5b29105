/-
  Each operation of the evaluator is what the model's operation does: what is built, computed, called.
-/
import Derived.Test.YtjceimcepogkaaaGreatDoorEvO
namespace Go.Proofs.YtjceimcepogkaaaGreatDoor.Ev
open Go Go.RowKit

section
variable {P : Program} {E : Env} {B : Nat} {w0 : World} {φ0 : Nat → Option Nat} {s : St} {a : Act} {w w' : World} {φ φ' : Nat → Option Nat} {o : Oper} {m : Nat → Option Bk} {k : Nat}

theorem fillD_sound (r : Rel B w0 φ0 s a w φ) {sh : Sh} {place : Nat → Option (Nat × Nat)} (hp : ∀ i u, sh.sub [i] = some u → place i = some (sh.off [i], u.size)) :
    ∀ (parts : List (Nat × Operand)) (z z' : D), z.WF → z.shape = sh → fillD E s sh parts z = some z' →
      z'.WF ∧ z'.shape = sh ∧ Instr.fill place z.flat.toArray (parts.map fun (i, x) => (i, a.eval x)) = some z'.flat.toArray
  | [], z, z', hz, hs, h => by simp only [fillD] at h; cases h; exact ⟨hz, hs, rfl⟩
  | (i, x) :: rest, z, z', hz, hs, h => by
    simp only [fillD] at h
    obtain ⟨v, h1, hA⟩ := ob_eq_some h
    obtain ⟨y, h2, hB⟩ := ob_eq_some hA
    clear h hA
    obtain rfl := dat_some h2
    by_cases hc : sh.sub [i] = some y.shape
    · rw [if_pos hc] at hB
      obtain ⟨hy, hu⟩ := opd_sound r h1
      obtain ⟨_, _, _, _, _, _, e3⟩ := z.at_path [i] y.shape hz (by rw [hs]; exact hc)
      obtain ⟨k1, k2, _⟩ := e3 y hy rfl
      obtain ⟨q1, q2, q3⟩ := fillD_sound r hp rest (z.set [i] y) z' k1 (k2.trans hs) hB
      refine ⟨q1, q2, ?_⟩
      simp only [List.map_cons, hu]
      rw [fill_step hz (by rw [hs]; exact hc) hy rfl (by rw [hs]; exact hp i _ hc)]
      exact q3
    · rw [if_neg hc] at hB; cases hB

theorem mapM_some {α β : Type} (g : α → Option β) : ∀ (l : List α), (∀ f ∈ l, ∃ q, g f = some q) → ∃ qs : List β, l.mapM g = some qs ∧ ∀ (j : Nat) (f : α), l[j]? = some f → ∃ q, g f = some q ∧ qs[j]? = some q
  | [], _ => ⟨[], rfl, fun j f h => by simp at h⟩
  | x :: l, h => by
    obtain ⟨q, hq⟩ := h x (by simp)
    obtain ⟨qs, h1, h2⟩ := mapM_some g l fun f hf => h f (by simp [hf])
    refine ⟨q :: qs, by simp [List.mapM_cons, hq, h1], fun j f hf => ?_⟩
    cases j with
    | zero => simp at hf; subst hf; exact ⟨q, hq, rfl⟩
    | succ j => exact h2 j f (by simpa using hf)

theorem evBuild_sound (hE : EnvOK P E) (r : Rel B w0 φ0 s a w φ) {t : Nat} {parts : Array (Nat × Operand)} {v : V} (h : evBuild E s t parts.toList = some v) :
    ∃ y : D, v = .d y ∧ y.WF ∧ (Instr.build t (parts.map fun (i, x) => (i, a.eval x))).run P w = .ok y.val w := by
  unfold evBuild at h
  obtain ⟨ty, ht, h⟩ := ob_eq_some h
  have hT := hE t ty ht
  obtain ⟨i, hi, hz, _⟩ := hT.zero
  obtain ⟨hzw, hzs⟩ := hT.zwf
  have hkd := hT.kd
  have fin : ∀ (place : Nat → Option (Nat × Nat)) (z : D), (∀ i u, ty.sh.sub [i] = some u → place i = some (ty.sh.off [i], u.size)) → fillD E s ty.sh parts.toList ty.zero = some z → ty.sh.isAgg = true →
      z.WF ∧ z.val = .agg z.flat.toArray ∧ Instr.fill place ty.zero.val.cells (parts.toList.map fun (i, x) => (i, a.eval x)) = some z.flat.toArray := by
    intro place z hp hf ha
    obtain ⟨q1, q2, q3⟩ := fillD_sound r hp parts.toList ty.zero z hzw hzs hf
    exact ⟨q1, val_agg (by rw [q2]; exact ha), by rw [D.val_cells _ hzw]; exact q3⟩
  split at h
  · rename_i n e hk
    obtain ⟨z, hf, h⟩ := ob_eq_some h
    cases h
    rw [hk] at hkd
    simp only [KdOK] at hkd
    obtain ⟨_, d, _, _, hd, hrow⟩ := hT.lies
    obtain ⟨hkd, u, hu, ie, _, hie, hsz, _⟩ := hkd
    rw [hkd] at hd; cases hd
    have ha : ty.sh.isAgg = true := by rw [← hrow]
    obtain ⟨q1, q2, q3⟩ := fin (fun i => some (i * ie.size, ie.size)) z (fun j u' hu' => by
      rw [hu] at hu' ⊢
      simp only [Sh.sub] at hu'
      by_cases hj : j < n
      · rw [if_pos hj] at hu'; cases hu'
        simp [Sh.off, Sh.off_nil, hsz]
      · rw [if_neg hj] at hu'; cases hu') hf ha
    refine ⟨z, rfl, q1, ?_⟩
    rw [q2]
    refine run_build w t _ _ ?_
    unfold Program.built
    simp only [hi, hkd, hz, hie]
    rw [← q3]
    simp
  · rename_i fl hk
    obtain ⟨z, hf, h⟩ := ob_eq_some h
    cases h
    rw [hk] at hkd
    obtain ⟨fs, hfs, hfl⟩ := hkd
    obtain ⟨_, d, _, _, hd, hrow⟩ := hT.lies
    rw [hfs] at hd; cases hd
    have ha : ty.sh.isAgg = true := by rw [← hrow]
    obtain ⟨places, hp1, hp2⟩ := mapM_some (fun f : Field => (P.info? f.type).map fun i => (f.offset, i.size)) fs.toList (fun f hf => by
      obtain ⟨j, hj⟩ := List.mem_iff_getElem?.1 hf
      obtain ⟨u, hu⟩ := hfl.of j f (by simpa using hj)
      obtain ⟨f', h1, h2, i', _, h3, _⟩ := hfl.to j u hu
      have : f' = f := by rw [show fs[j]? = some f by simpa using hj] at h1; cases h1; rfl
      subst this
      exact ⟨_, by rw [h3]; rfl⟩)
    obtain ⟨q1, q2, q3⟩ := fin (places.toArray[·]?) z (fun j u hu => by
      obtain ⟨f, h1, h2, i', _, h3, h4, _⟩ := hfl.to j u hu
      obtain ⟨q, h5, h6⟩ := hp2 j f (by simpa using h1)
      rw [h3] at h5
      simp at h5; subst h5
      simpa [h2, h4] using h6) hf ha
    refine ⟨z, rfl, q1, ?_⟩
    rw [q2]
    refine run_build w t _ _ ?_
    unfold Program.built
    simp only [hi, hfs, hz, hp1]
    rw [← q3]
    simp
  · cases h

theorem newRowAt (φ : Nat → Option Nat) {sh : Sh} {es : List D} {u : Value} (hb : Below w.heap.size w w') (hB : B ≤ w.heap.size) (hr : RO w' w.heap.size sh es u) :
    StepOK B m φ w k (.sl (.tg k) sh es) (some .row) u w' (fun i => if i = k then u.ownBlock else φ i) := by
  obtain ⟨hg, e, ho⟩ := hr
  refine ⟨hb, fun k' hk' => if_neg hk', fun g hg' => ?_, ⟨upd_same _ _ _, ⟨hg, e, ho.1, ?_⟩, fun g hg' => by simpa using hg'⟩, fun y hy => by cases hy⟩
  · simp at hg'; exact ownsRow_lt ho hg'
  · rcases ho.2 with h2 | ⟨g, cap, cur, q1, q2, q3⟩
    · exact .inl h2
    · exact .inr ⟨g, cap, cur, q1, Nat.le_trans hB q2, q3⟩

theorem flats_length {sh : Sh} {es : List D} (h : Good sh es) : (flats es).length = es.length * sh.size := by
  induction es with
  | nil => simp [flats]
  | cons e es ih =>
    have he := h e (by simp)
    have := ih fun y hy => h y (by simp [hy])
    simp only [flats, List.flatMap_cons, List.length_append, List.length_cons] at this ⊢
    rw [this, e.flat_length he.1, he.2, Nat.add_mul]; omega

theorem arr_flats {sh : Sh} (z0 : D) : ∀ (es : List D), (D.arr es.length sh fun i => es.getD i z0).flat = flats es := by
  intro es
  simp only [D.flat, flats]
  induction es with
  | nil => rfl
  | cons e es ih =>
    rw [List.length_cons, List.range_succ_eq_map, List.flatMap_cons, List.flatMap_map]
    simp only [List.flatMap_cons]
    congr 1

theorem fillL_sound (r : Rel B w0 φ0 s a w φ) {sh : Sh} {z0 : D} (hz0 : z0.WF ∧ z0.shape = sh) : ∀ (parts : List (Nat × Operand)) (z z' : List D), Good sh z → fillL E s sh parts z = some z' →
      Good sh z' ∧ z'.length = z.length ∧ Instr.fill (fun i => some (i * sh.size, sh.size)) (flats z).toArray (parts.map fun (i, x) => (i, a.eval x)) = some (flats z').toArray
  | [], z, z', hz, h => by simp only [fillL] at h; cases h; exact ⟨hz, rfl, rfl⟩
  | (i, x) :: rest, z, z', hz, h => by
    simp only [fillL] at h
    obtain ⟨v, h1, hA⟩ := ob_eq_some h
    obtain ⟨y, h2, hB⟩ := ob_eq_some hA
    clear h hA
    obtain rfl := dat_some h2
    by_cases hc : i < z.length ∧ y.shape = sh
    · rw [if_pos hc] at hB
      obtain ⟨hi, hys⟩ := hc
      obtain ⟨hy, hu⟩ := opd_sound r h1
      have hg : Good sh (z.set i y) := fun q hq => by
        rcases List.mem_or_eq_of_mem_set hq with hq | rfl
        · exact hz q hq
        · exact ⟨hy, hys⟩
      obtain ⟨q1, q2, q3⟩ := fillL_sound r hz0 rest (z.set i y) z' hg hB
      refine ⟨q1, by rw [q2, List.length_set], ?_⟩
      simp only [List.map_cons, hu]
      have hwf : (D.arr z.length sh fun i => z.getD i z0).WF := fun j => by
        by_cases hj : j < z.length
        · have : z.getD j z0 ∈ z := by simp [List.getD, List.getElem?_eq_getElem hj]
          exact hz _ this
        · simp only [List.getD, List.getElem?_eq_none (Nat.le_of_not_lt hj), Option.getD_none]; exact hz0
      have hsub : (D.arr z.length sh fun i => z.getD i z0).shape.sub [i] = some sh := by simp [D.shape, Sh.sub, hi, Sh.sub_nil]
      have := fill_step (place := fun i => some (i * sh.size, sh.size)) hwf hsub hy hys (by simp [D.shape, Sh.off, Sh.off_nil]) (rest.map fun (i, x) => (i, a.eval x))
      rw [arr_flats] at this
      rw [this, ← q3]
      congr 2
      rw [← arr_flats (sh := sh) z0 (z.set i y), D.set_arr, List.length_set]
      simp only [D.flat, D.set_nil, List.flatMap]
      congr 1
      refine List.map_congr_left fun j hj => ?_
      have hj := List.mem_range.1 hj
      by_cases hji : j = i
      · subst hji; simp [hj]
      · simp [hji, List.getElem?_set_ne (Ne.symm hji)]
    · rw [if_neg hc] at hB; cases hB

theorem made_flats {z : D} {sh : Sh} (hz : z.WF) (hs : z.shape = sh) (n : Nat) : (madeCells (if n * sh.size = 0 then #[] else z.val.cells) (n * sh.size)) = (flats (List.replicate n z)).toArray := by
  by_cases h0 : n * sh.size = 0
  · have : flats (List.replicate n z) = [] := List.eq_nil_of_length_eq_zero (by rw [flats_length (sh := sh) (fun x hx => by rw [List.eq_of_mem_replicate hx]; exact ⟨hz, hs⟩)]; simpa using h0)
    rw [this, h0]
    simp [madeCells, Array.range_zero']
  · rw [if_neg h0, D.val_cells _ hz]
    have hl : z.flat.length = sh.size := by rw [z.flat_length hz, hs]
    apply Array.ext
    · simp [madeCells, flats_length (sh := sh) (es := List.replicate n z) (fun x hx => by rw [List.eq_of_mem_replicate hx]; exact ⟨hz, hs⟩)]
    · intro j h1 h2
      have hpos : 0 < sh.size := by rcases Nat.eq_zero_or_pos sh.size with h | h; (rw [h] at h0; simp at h0); exact h
      have hj : j < n * sh.size := by simpa [madeCells] using h1
      have hd : j / sh.size < n := (Nat.div_lt_iff_lt_mul hpos).2 hj
      have hm : j % sh.size < sh.size := Nat.mod_lt _ hpos
      have := flats_at (sh := sh) (es := List.replicate n z) (fun x hx => by rw [List.eq_of_mem_replicate hx]; exact ⟨hz, hs⟩) (i := j / sh.size) (x := z) (by simp [hd]) (j := j % sh.size) (v := z.flat[j % sh.size]'(by omega)) (List.getElem?_eq_getElem _)
      rw [Nat.mul_comm, Nat.div_add_mod] at this
      have e1 : (flats (List.replicate n z)).toArray[j] = z.flat[j % sh.size]'(by omega) := by
        have h3 := (List.getElem?_eq_some_iff.1 this).2
        simpa using h3
      rw [e1]
      simp only [madeCells, Array.getElem_map, Array.getElem_range, List.size_toArray, hl]
      rw [getElem!_pos _ _ (by simp [hl, hm])]
      simp

theorem evBuildSlice_sound (hE : EnvOK P E) (r : Rel B w0 φ0 s a w φ) {t len : Nat} {parts : Array (Nat × Operand)} {v : V} {b : Option Bk} (h : evBuildSlice E s k t len parts.toList = some (v, b)) :
    ∃ u w' φ', (Instr.buildSlice t len (parts.map fun (i, x) => (i, a.eval x))).run P w = .ok u w' ∧ StepOK B s.m φ w k v b u w' φ' := by
  unfold evBuildSlice at h
  obtain ⟨ty, ht, h⟩ := ob_eq_some h
  split at h
  · rename_i e hk
    obtain ⟨te, hte, h⟩ := ob_eq_some h
    by_cases hc : len ≤ 1000 ∧ len * te.sh.size ≤ 1000
    · rw [if_pos hc] at h
      obtain ⟨es, hf, h⟩ := ob_eq_some h
      cases h
      have hkd := (hE t ty ht).kd
      rw [hk] at hkd
      simp only [KdOK] at hkd
      have hT := hE e te hte
      obtain ⟨ie, hie, hz, _⟩ := hT.zero
      have hsz := hT.lies.sizeOf (P := P) w
      have hg0 : Good te.sh (List.replicate len te.zero) := fun x hx => by rw [List.eq_of_mem_replicate hx]; exact hT.zwf
      obtain ⟨q1, q2, q3⟩ := fillL_sound r hT.zwf parts.toList _ es hg0 hf
      rw [← made_flats hT.zwf.1 hT.zwf.2] at q3
      have hbig : ¬ (16777216 < len * te.sh.size) := by omega
      have hlen : es.length = len := by rw [q2]; simp
      have hzr : (zeroValue e).run P w = .ok te.zero.val w := by simp [zeroValue, typeInfo, hie, hz]
      have hml : len ≤ maxLen := by have := hc.1; simp only [maxLen]; omega
      refine ⟨.slice (some ⟨w.heap.size, 0, none⟩) len len, w.alloc (.cells (flats es).toArray e), _, ?_, newRowAt φ (Below.alloc1 _ _) r.base ⟨q1, e, flats_length q1, .inr ⟨w.heap.size, len, (flats es).toArray, by rw [hlen], Nat.le_refl _, heap_alloc_new w _, by omega, hml, by simp [flats_length q1, hlen], by rw [List.take_of_length_le]; simp [flats_length q1]⟩⟩⟩
      have hbig' : ¬ (len * te.sh.size > 2 ^ 24) := hbig
      have fin : ∀ Z : Array Value, madeCells (if len * te.sh.size = 0 then #[] else te.zero.val.cells) (len * te.sh.size) = madeCells Z (len * te.sh.size) →
          Instr.fill (fun i => some (i * te.sh.size, te.sh.size)) ((Array.range (len * te.sh.size)).map (Z[· % Z.size]!)) (parts.map fun (i, x) => (i, a.eval x)).toList = some (flats es).toArray := by
        intro Z hZ
        rw [← q3, hZ]; simp [madeCells]
      unfold Instr.buildSlice
      simp only [Sem.run_bind, run_underlying hkd, Result.andThen_ok, hsz, hbig', if_false]
      by_cases h0 : len * te.sh.size = 0
      · have := fin #[] (by rw [if_pos h0])
        simp only [h0, if_true, Sem.run_bind, Sem.run_pure, Result.andThen_ok] at this ⊢
        simp only [this, newRow, Sem.run_bind, run_newObj, Sem.run_pure, Result.andThen_ok]
        rfl
      · have := fin te.zero.val.cells (by rw [if_neg h0])
        simp only [h0, if_false, Sem.run_bind, Sem.run_pure, Result.andThen_ok, hzr]
        simp only [this, newRow, Sem.run_bind, run_newObj, Sem.run_pure, Result.andThen_ok]
        rfl
    · rw [if_neg hc] at h; cases h
  · cases h

/-- The address of what reads as x, in a block from lo on and below hi. -/
def RE (w : World) (lo hi : Nat) (sh : Sh) (x : D) (u : Value) : Prop :=
  x.WF ∧ x.shape = sh ∧ ∃ g off cs T fr, lo ≤ g ∧ g < hi ∧ u = .pointer (some ⟨g, off, none⟩) ∧ w.heap[g]? = some (.cells cs T fr) ∧ ∀ j v, x.flat[j]? = some v → cs[off + j]? = some v

def RAC (w : World) : V → List Value → Prop
  | .tnil, l => l = []
  | .tcons (.ep .ro sh x) b, l => ∃ u us, l = u :: us ∧ RE w 0 w.heap.size sh x u ∧ RAC w b us
  | .tcons (.d x) b, l => ∃ u us, l = u :: us ∧ (x.WF ∧ u = x.val) ∧ RAC w b us
  | _, _ => False

def RA1 (w : World) : V → Value → Prop
  | .d x, u => x.WF ∧ u = x.val
  | .sl .ro sh es, u => RS w w.heap.size sh es u
  | .ep .ro sh x, u => RE w 0 w.heap.size sh x u
  | .clos g c, u => ∃ cs : Array Value, u = .func (.func g) #[] cs ∧ RAC w c cs.toList
  | _, _ => False

def RA (w : World) : List V → List Value → Prop
  | [], [] => True
  | v :: l, u :: us => RA1 w v u ∧ RA w l us
  | _, _ => False

def RR0 (w : World) (lo : Nat) : V → Value → Prop
  | .d x, u => x.WF ∧ u = x.val
  | .sl .ro sh es, u => RO w lo sh es u
  | .clos g .tnil, u => u = .func (.func g) #[] #[]
  | .clos g (.tcons (.ep .ro sh x) .tnil), u => ∃ p, u = .func (.func g) #[] #[p] ∧ RE w lo w.heap.size sh x p
  | _, _ => False

def RRL (w : World) (lo : Nat) : V → List Value → Prop
  | .tnil, l => l = []
  | .tcons a b, l => ∃ u us, l = u :: us ∧ RR0 w lo a u ∧ RRL w lo b us
  | _, _ => False

def RR (w : World) (lo : Nat) (v : V) (u : Value) : Prop :=
  match v with
  | .tnil => u = .tuple #[]
  | .tcons a b => ∃ us, u = .tuple us ∧ RRL w lo (.tcons a b) us.toList
  | v => RR0 w lo v u

structure CallOK (P : Program) (g : Nat) (l : List V) (r : V) : Prop where
  fn : ∃ fn, P.funcs[g]? = some fn ∧ fn.body.isNone = false ∧ (fn.name == "runtime.NumGoroutine") = false
  run : ∀ (w : World) (vs : List Value), RA w l vs → Calls P g vs.toArray w fun e w' => ∃ u, e = .returned u ∧ Below w.heap.size w w' ∧ RR w' w.heap.size r u

/-- .. in one world. -/
structure CallAt (P : Program) (w : World) (g : Nat) (l : List V) (r : V) : Prop where
  fn : ∃ fn, P.funcs[g]? = some fn ∧ fn.body.isNone = false ∧ (fn.name == "runtime.NumGoroutine") = false
  run : ∀ (vs : List Value), RA w l vs → Calls P g vs.toArray w fun e w' => ∃ u, e = .returned u ∧ Below w.heap.size w w' ∧ RR w' w.heap.size r u
/-- A call of an entry of the model's own, without a body. -/
def EntAt (P : Program) (w : World) (g : Nat) (l : List V) (r : V) : Prop :=
  ∃ fn e, P.funcs[g]? = some fn ∧ (fn.name == "runtime.NumGoroutine") = false ∧ fn.body.isNone = true ∧ Extern.findNext fn = none ∧ Extern.find fn = some e ∧
    ∀ (vs : List Value), RA w l vs → ∃ u w', (e vs.toArray).run P w = .ok u w' ∧ Below w.heap.size w w' ∧ RR w' w.heap.size r u
/-- A call that writes through its first argument: a slice that begins the block gb and holds the array's elements. -/
def MutAt (P : Program) (w : World) (g : Nat) (l : List V) (r : V) : Prop :=
  ∀ (n : Nat) (u : Sh) (f : Nat → D) (l' : List V) (x' : D), l = .d (.arr n u f) :: l' → r = .d x' →
    (∃ fn, P.funcs[g]? = some fn ∧ fn.body.isNone = false ∧ (fn.name == "runtime.NumGoroutine") = false) ∧
    ∀ (gb cap : Nat) (T : TypeId) (rest : List Value) (vs : List Value), RA w l' vs → plainL l' = true → (D.arr n u f).WF → x'.shape = .arr n u → w.heap[gb]? = some (.cells ((D.arr n u f).flat ++ rest).toArray T (0, 0)) →
      Calls P g (.slice (some ⟨gb, 0, none⟩) n cap :: vs).toArray w fun e w' => e = .returned (.tuple #[]) ∧ x'.WF ∧ (∃ T', w'.heap[gb]? = some (.cells (x'.flat ++ rest).toArray T' (0, 0))) ∧ GB w w' (some gb)
def CallX (P : Program) (w : World) (g : Nat) (l : List V) (r : V) : Prop := (mutq g l = false → CallAt P w g l r ∨ EntAt P w g l r) ∧ (mutq g l = true → MutAt P w g l r)
theorem CallX.plain {P : Program} {w : World} {g : Nat} {l : List V} {r : V} (hm : mutq g l = false) (h : CallAt P w g l r ∨ EntAt P w g l r) : CallX P w g l r := ⟨fun _ => h, fun e => by rw [hm] at e; cases e⟩
theorem CallOK.at {P : Program} {g : Nat} {l : List V} {r : V} (h : CallOK P g l r) (w : World) : CallAt P w g l r := ⟨h.fn, h.run w⟩

theorem snap_sound (r : Rel B w0 φ0 s a w φ) {v v' : V} {u : Value} (hv : RT0 B s.m φ w v u) (h : snap s.m v = some v') : (∃ sh x, v' = .ep .ro sh x ∧ RE w 0 w.heap.size sh x u) ∨ ∃ x, v' = .d x ∧ x.WF ∧ u = x.val := by
  unfold snap at h
  split at h
  · rename_i k sh p t
    obtain ⟨b, hm, h⟩ := ob_eq_some h
    cases b with
    | row => cases h
    | box x =>
      cases h
      obtain ⟨h1, h2, h3, h4, h5, g, T, h6, rfl, h8, h9⟩ := box_at r hm hv
      refine .inl ⟨_, _, rfl, h4, h5, g, _, _, T, (0, 0), Nat.zero_le _, lt_of_heap h8, rfl, h8, fun j c hj => ?_⟩
      have := h9 j c hj
      rwa [cell_of_row w g _ _ T (0, 0) h8] at this
  · cases h
    obtain ⟨h1, h2, g, off, cs, T, fr, h3, h4, h5, h6⟩ := hv
    exact .inl ⟨_, _, rfl, h1, h2, g, off, cs, T, fr, Nat.zero_le _, lt_of_heap h5, h4, h5, h6⟩
  · cases h
    obtain ⟨h1, h2, g, off, cs, T, fr, h3, h3', h4, h5, h6⟩ := hv
    exact .inl ⟨_, _, rfl, h1, h2, g, off, cs, T, fr, Nat.zero_le _, lt_of_heap h5, h4, h5, h6⟩
  · cases h
    exact .inr ⟨_, rfl, hv⟩
  · cases h

theorem snapL_sound (r : Rel B w0 φ0 s a w φ) : ∀ {c c' : V} {l : List Value}, RTL B s.m φ w c l → snapL s.m c = some c' → RAC w c' l
  | .tnil, c', l, hc, h => by simp only [snapL] at h; cases h; exact hc
  | .tcons x y, c', l, hc, h => by
    simp only [snapL] at h
    obtain ⟨u, us, rfl, h1, h2⟩ := hc
    obtain ⟨x', q1, h⟩ := ob_eq_some h
    obtain ⟨y', q2, h⟩ := ob_eq_some h
    cases h
    rcases snap_sound r h1 q1 with ⟨sh, z, rfl, hz⟩ | ⟨z, rfl, hz⟩
    · exact ⟨u, us, rfl, hz, snapL_sound r h2 q2⟩
    · exact ⟨u, us, rfl, hz, snapL_sound r h2 q2⟩
  | .d _, _, _, hc, _ => hc.elim
  | .ptr _ _ _ _, _, _, hc, _ => hc.elim
  | .sl _ _ _, _, _, hc, _ => hc.elim
  | .ep _ _ _, _, _, hc, _ => hc.elim
  | .undef, _, _, hc, _ => hc.elim
  | .junk, _, _, hc, _ => hc.elim
  | .clos _ _, _, _, hc, _ => hc.elim
  | .ms _ _ _, _, _, hc, _ => hc.elim

theorem RAC.list : ∀ {c : V} {l : List Value}, RAC w c l → RA w (listV c) l
  | .tnil, l, h => by rw [show l = [] from h]; trivial
  | .tcons (.ep .ro sh x) y, l, h => by
    obtain ⟨u, us, rfl, h1, h2⟩ := h
    exact ⟨h1, RAC.list h2⟩
  | .tcons (.ep .nil _ _) _, _, h => h.elim
  | .tcons (.ep (.tg _) _ _) _, _, h => h.elim
  | .tcons (.d x) y, l, h => by
    obtain ⟨u, us, rfl, h1, h2⟩ := h
    exact ⟨h1, RAC.list h2⟩
  | .tcons (.ptr _ _ _ _) _, _, h => h.elim
  | .tcons (.sl _ _ _) _, _, h => h.elim
  | .tcons .tnil _, _, h => h.elim
  | .tcons (.tcons _ _) _, _, h => h.elim
  | .tcons .undef _, _, h => h.elim
  | .tcons .junk _, _, h => h.elim
  | .tcons (.clos _ _) _, _, h => h.elim
  | .tcons (.ms _ _ _) _, _, h => h.elim
  | .d _, _, h => h.elim
  | .ptr _ _ _ _, _, h => h.elim
  | .sl _ _ _, _, h => h.elim
  | .ep _ _ _, _, h => h.elim
  | .undef, _, h => h.elim
  | .junk, _, h => h.elim
  | .clos _ _, _, h => h.elim
  | .ms _ _ _, _, h => h.elim

theorem RA_append : ∀ {l l' : List V} {us us' : List Value}, RA w l us → RA w l' us' → RA w (l ++ l') (us ++ us')
  | [], _, [], _, _, h => h
  | _ :: _, _, _ :: _, _, ⟨h1, h2⟩, h => ⟨h1, RA_append h2 h⟩
  | [], _, _ :: _, _, h, _ => h.elim
  | _ :: _, _, [], _, h, _ => h.elim

theorem argV_sound (r : Rel B w0 φ0 s a w φ) {v v' : V} {u : Value} (hv : RT B s.m φ w v u) (h : argV s.m v = some v') : RA1 w v' u := by
  cases v with
  | clos g c =>
    simp only [argV] at h
    obtain ⟨c', h1, h⟩ := ob_eq_some h
    cases h
    obtain ⟨cs, rfl, h2⟩ := hv
    exact ⟨cs, rfl, snapL_sound r h2 h1⟩
  | d x => simp only [argV] at h; cases h; exact hv
  | sl ow sh es =>
    simp only [argV] at h
    cases h
    cases ow with
    | nil => obtain ⟨rfl, rfl⟩ := hv; exact ⟨(fun x hx => by cases hx), .inl ⟨rfl, rfl⟩⟩
    | ro =>
      obtain ⟨hg, hv⟩ := hv
      refine ⟨hg, ?_⟩
      rcases hv with h | ⟨g, off, cap, cs, T, fr, _, qc, q2, q3, q4⟩
      · exact .inl h
      · exact .inr ⟨g, off, cap, cs, T, fr, lt_of_heap q3, qc, q2, q3, q4⟩
    | tg k =>
      obtain ⟨_, ⟨hg, e, ho⟩, _⟩ := hv
      refine ⟨hg, ?_⟩
      rcases ho.2 with ⟨h1, h2⟩ | ⟨g, cap, cur, q1, _, q3, qc, _, _, q4⟩
      · exact .inl ⟨List.eq_nil_of_length_eq_zero h2, h1⟩
      · exact .inr ⟨g, 0, cap, cur, e, (0, 0), lt_of_heap q3, qc, q1, q3, fun j v hj => by
          rw [← q4, List.getElem?_take] at hj
          split at hj
          · simpa using hj
          · cases hj⟩
  | ptr k sh p t => simp [argV] at h
  | ep ow sh x => simp [argV] at h
  | tnil => simp [argV] at h
  | tcons a b => simp [argV] at h
  | undef => simp [argV] at h
  | junk => simp [argV] at h
  | ms k n u => simp [argV] at h

theorem args_sound (r : Rel B w0 φ0 s a w φ) : ∀ (xs : List Operand) (l : List V), args E s xs = some l → RA w l (xs.map a.eval)
  | [], l, h => by simp only [args] at h; cases h; trivial
  | x :: xs, l, h => by
    simp only [args] at h
    obtain ⟨v, h1, h⟩ := ob_eq_some h
    obtain ⟨v', h2, h⟩ := ob_eq_some h
    obtain ⟨l', h3, h⟩ := ob_eq_some h
    cases h
    exact ⟨argV_sound r (opd_sound r h1) h2, args_sound r xs l' h3⟩

theorem ret1_sound {lo : Nat} (hB : B ≤ lo) {v v' : V} {b : Option Bk} {u : Value} (hr : RR0 w lo v u) (h : ret1 k v = some (v', b)) :
    ∃ gk : Option Nat, (b = none ∨ b = some .row) ∧ (∀ g, gk = some g → lo ≤ g ∧ g < w.heap.size) ∧
      ∀ (m : Nat → Option Bk) (φ : Nat → Option Nat), (b = some .row → m k = some .row ∧ φ k = gk) → RT0 B m φ w v' u := by
  cases v with
  | d x => simp only [ret1] at h; cases h; exact ⟨none, .inl rfl, (fun g hg => by cases hg), fun m φ _ => hr⟩
  | sl ow sh es =>
    simp only [ret1] at h
    cases h
    cases ow with
    | nil => exact hr.elim
    | tg k => exact hr.elim
    | ro =>
      obtain ⟨hg, e, ho⟩ := hr
      refine ⟨u.ownBlock, .inr rfl, fun g hg' => ownsRow_lt ho hg', fun m φ hm => ⟨(hm rfl).1, ⟨hg, e, ho.1, ?_⟩, fun g hg' => (hm rfl).2.trans hg'⟩⟩
      rcases ho.2 with h2 | ⟨g, cap, cur, q1, q2, q3⟩
      · exact .inl h2
      · exact .inr ⟨g, cap, cur, q1, Nat.le_trans hB q2, q3⟩
  | ptr k sh p t => exact hr.elim
  | ep ow sh x => exact hr.elim
  | tnil => exact hr.elim
  | tcons a b => exact hr.elim
  | undef => exact hr.elim
  | junk => exact hr.elim
  | clos g c => simp [ret1] at h
  | ms k n u => exact hr.elim

theorem retT_sound {lo : Nat} (hB : B ≤ lo) : ∀ {v v' : V} {b : Option Bk} {l : List Value}, RRL w lo v l → retT k v = some (v', b) →
    ∃ gk : Option Nat, (b = none ∨ b = some .row) ∧ (∀ g, gk = some g → lo ≤ g ∧ g < w.heap.size) ∧
      ∀ (m : Nat → Option Bk) (φ : Nat → Option Nat), (b = some .row → m k = some .row ∧ φ k = gk) → RTL B m φ w v' l
  | .tnil, v', b, l, hr, h => by simp only [retT] at h; cases h; exact ⟨none, .inl rfl, (fun g hg => by cases hg), fun m φ _ => hr⟩
  | .tcons x y, v', b, l, hr, h => by
    simp only [retT] at h
    obtain ⟨⟨v1, b1⟩, h1, h⟩ := ob_eq_some h
    obtain ⟨⟨v2, b2⟩, h2, h⟩ := ob_eq_some h
    obtain ⟨c, h3, h⟩ := ob_eq_some h
    cases h
    obtain ⟨u, us, rfl, r1, r2⟩ := hr
    obtain ⟨g1, p1, q1, f1⟩ := ret1_sound hB r1 h1
    obtain ⟨g2, p2, q2, f2⟩ := retT_sound hB r2 h2
    simp only at h3
    rcases p1 with rfl | rfl <;> rcases p2 with rfl | rfl <;> simp only [joinB] at h3 <;> cases h3
    · exact ⟨none, .inl rfl, (fun g hg => by cases hg), fun m φ _ => ⟨u, us, rfl, f1 m φ (fun e => by cases e), f2 m φ (fun e => by cases e)⟩⟩
    · exact ⟨g2, .inr rfl, q2, fun m φ hm => ⟨u, us, rfl, f1 m φ (fun e => by cases e), f2 m φ (fun _ => hm rfl)⟩⟩
    · exact ⟨g1, .inr rfl, q1, fun m φ hm => ⟨u, us, rfl, f1 m φ (fun _ => hm rfl), f2 m φ (fun e => by cases e)⟩⟩
  | .d _, _, _, _, hr, _ => hr.elim
  | .ptr _ _ _ _, _, _, _, hr, _ => hr.elim
  | .sl _ _ _, _, _, _, hr, _ => hr.elim
  | .ep _ _ _, _, _, _, hr, _ => hr.elim
  | .undef, _, _, _, hr, _ => hr.elim
  | .junk, _, _, _, hr, _ => hr.elim
  | .clos _ _, _, _, _, hr, _ => hr.elim
  | .ms _ _ _, _, _, _, hr, _ => hr.elim

theorem retStep {v : V} {b : Option Bk} {u : Value} (hb : Below w.heap.size w w') {gk : Option Nat} (p : b = none ∨ b = some .row) (q : ∀ g, gk = some g → w.heap.size ≤ g ∧ g < w'.heap.size)
    (f : ∀ (m : Nat → Option Bk) (φ : Nat → Option Nat), (b = some .row → m k = some .row ∧ φ k = gk) → RT B m φ w' v u) (φ : Nat → Option Nat) :
    ∃ φ', StepOK B m φ w k v b u w' φ' := by
  rcases p with rfl | rfl
  · exact ⟨φ, hb, rfl, f m φ (fun e => by cases e)⟩
  · exact ⟨fun i => if i = k then gk else φ i, hb, fun k' hk' => if_neg hk', fun g hg => q g (by simpa using hg), f _ _ (fun _ => ⟨upd_same _ _ _, if_pos rfl⟩), fun y hy => by cases hy⟩

theorem retV_sound (hB : B ≤ w.heap.size) {r v : V} {b : Option Bk} {u : Value} (hb : Below w.heap.size w w') (hr : RR w' w.heap.size r u) (h : retV k r = some (v, b)) (φ : Nat → Option Nat) :
    ∃ φ', StepOK B m φ w k v b u w' φ' := by
  cases r with
  | tnil => simp only [retV] at h; cases h; exact ⟨φ, hb, rfl, hr⟩
  | tcons x y =>
    simp only [retV] at h
    obtain ⟨us, rfl, hr⟩ := hr
    obtain ⟨gk, p, q, f⟩ := retT_sound (k := k) hB hr h
    refine retStep hb p q (fun m φ hm => ?_) φ
    have := f m φ hm
    cases v with
    | tnil => obtain ⟨u, us', e, _⟩ := hr; rw [show us.toList = [] from this] at e; cases e
    | tcons c d => exact ⟨us, rfl, this⟩
    | d x => exact this.elim
    | ptr k sh p t => exact this.elim
    | sl ow sh es => exact this.elim
    | ep ow sh x => exact this.elim
    | undef => exact this.elim
    | junk => exact this.elim
    | clos g c => exact this.elim
    | ms k n u => exact this.elim
  | d x => simp only [retV] at h; cases h; exact ⟨φ, hb, rfl, hr⟩
  | clos g c =>
    unfold retV at h
    split at h <;> first | cases h | skip
    · rename_i e; cases e
    · rename_i e; cases e
    · rename_i e; cases e
    · rename_i e; cases e
    · rename_i g' e
      cases e
      have hr : u = .func (.func g) #[] #[] := hr
      exact ⟨φ, hb, rfl, #[], hr, rfl⟩
    · rename_i g' ow sh x e
      cases e
      cases ow with
      | nil => exact hr.elim
      | tg k => exact hr.elim
      | ro =>
        obtain ⟨p, rfl, h1, h2, g0, off, cs, T, fr, h3, h4, rfl, h6, h7⟩ := hr
        refine ⟨fun i => if i = k then some g0 else φ i, hb, fun k' hk' => if_neg hk', fun g hg => ?_, ⟨#[.pointer (some ⟨g0, off, none⟩)], rfl, _, [], rfl, ⟨h1, h2, g0, off, cs, T, fr, upd_same _ _ _, if_pos rfl, rfl, h6, h7⟩, rfl⟩, fun y hy => by cases hy⟩
        simp at hg; subst hg; exact ⟨h3, h4⟩
  | sl ow sh es =>
    obtain ⟨gk, p, q, f⟩ := ret1_sound (k := k) (v := .sl ow sh es) hB hr h
    refine retStep hb p q (fun m φ hm => ?_) φ
    simp only [retV] at h
    cases h
    exact f m φ hm
  | ptr k sh p t => exact hr.elim
  | ep ow sh x => exact hr.elim
  | undef => exact hr.elim
  | junk => exact hr.elim
  | ms k n u => exact hr.elim

theorem evBin_sound (hE : EnvOK P E) {op : BinOp} {t : Nat} {x y v : V} {u1 u2 : Value} {xo yo : Operand} (hx : RT B m φ w x u1) (hy : RT B m φ w y u2) (h : evBin E op t x y = some v) :
    ∃ z : D, v = .d z ∧ z.WF ∧ (do eqGuard op t xo yo u1 u2; binOp op t u1 u2 : Sem Value).run P w = .ok z.val w := by
  unfold evBin at h
  split at h
  · rename_i p q
    obtain ⟨_, rfl⟩ := hx
    obtain ⟨_, rfl⟩ := hy
    simp only [D.val, eqGuard_at_bool]
    split at h
    · rename_i ht
      have hkd := (hE _ _ ht).kd
      simp only [KdOK] at hkd
      split at h
      · cases h
        exact ⟨_, rfl, rfl, by simp [binOp, run_equal_bool w t p q hkd]⟩
      · cases h
        exact ⟨_, rfl, rfl, by simp [binOp, run_equal_bool w t p q hkd]⟩
      · cases h
    · cases h
  · obtain ⟨_, rfl⟩ := hx
    obtain ⟨_, rfl⟩ := hy
    simp only [D.val, eqGuard_at_int]
    obtain ⟨z, h1, h2, rfl⟩ := scal_some h
    exact ⟨_, rfl, h2, by simp [h1]⟩
  · obtain ⟨_, rfl⟩ := hx
    obtain ⟨_, rfl⟩ := hy
    simp only [D.val, eqGuard_at_string]
    obtain ⟨z, h1, h2, rfl⟩ := scal_some h
    exact ⟨_, rfl, h2, by simp [h1]⟩
  · obtain ⟨_, rfl⟩ := hx
    obtain ⟨_, rfl⟩ := hy
    simp only [D.val, eqGuard_at_float]
    obtain ⟨z, h1, h2, rfl⟩ := scal_some h
    exact ⟨_, rfl, h2, by simp [h1]⟩
  · cases h
  · rename_i x y hns1 hns2 hns3 hns4 hns5
    obtain ⟨hxw, rfl⟩ := hx
    obtain ⟨hyw, rfl⟩ := hy
    obtain ⟨ty, ht, h⟩ := ob_eq_some h
    by_cases hc : ty.eq = true ∧ x.shape = ty.sh ∧ y.shape = ty.sh
    · rw [if_pos hc] at h
      obtain ⟨c1, c2, c3⟩ := hc
      have hT := hE t ty ht
      have hagg : x.shape.isAgg = true := by
        cases x with
        | s v => exact absurd rfl (hns5 v)
        | _ => rfl
      have hagg' : y.shape.isAgg = true := by rw [c3, ← c2]; exact hagg
      have hxv := val_agg hagg
      have hyv := val_agg hagg'
      have heq := hT.eq c1 w x y hxw hyw c2 c3
      have hgd := hT.eqg c1
      have hguard : ∀ op, (eqGuard op t xo yo x.val y.val).run P w = .ok () w := by
        intro op
        rw [hxv, hyv]
        cases op <;> simp [eqGuard, hgd]
      rw [hxv, hyv] at heq
      split at h
      · cases h
        refine ⟨_, rfl, rfl, ?_⟩
        simp only [Sem.run_bind, hguard, Result.andThen_ok]
        rw [hxv, hyv]
        simp [binOp, heq, D.val]
      · cases h
        refine ⟨_, rfl, rfl, ?_⟩
        simp only [Sem.run_bind, hguard, Result.andThen_ok]
        rw [hxv, hyv]
        simp [binOp, heq, D.val]
      · cases h
    · rw [if_neg hc] at h; cases h
  · cases h
end
end Go.Proofs.YtjceimcepogkaaaGreatDoor.Ev
