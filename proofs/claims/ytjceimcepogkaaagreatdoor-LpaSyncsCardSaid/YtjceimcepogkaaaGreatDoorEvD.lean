/-
  The types' facts, and what the model's loads, stores and builds do to data.
-/
import Derived.Test.YtjceimcepogkaaaGreatDoorEvC
import Derived.Deep.MidRow
import Derived.Sort.OwnSortedInts
namespace Go.Proofs.YtjceimcepogkaaaGreatDoor.Ev
open Go Go.RowKit

/-- A type that lies as the shape says. -/
def Lies (P : Program) (t : TypeId) (u : Sh) : Prop := ∃ i d, P.info? t = some i ∧ i.size = u.size ∧ P.underlying t = some d ∧ d.isRow = u.isAgg

structure FldOK (P : Program) (sh : Sh) (fs : Array Field) : Prop where
  to : ∀ j u, sh.sub [j] = some u → ∃ f, fs[j]? = some f ∧ f.offset = sh.off [j] ∧ Lies P f.type u
  of : ∀ j f, fs[j]? = some f → ∃ u, sh.sub [j] = some u

def KdOK (P : Program) (t : TypeId) (sh : Sh) : Kd → Prop
  | .int k => P.underlying t = some (.int k)
  | .bool => P.underlying t = some .bool
  | .string => P.underlying t = some .string
  | .float k => P.underlying t = some (.float k)
  | .arr n e => P.underlying t = some (.array n e) ∧ ∃ u, sh = .arr n u ∧ Lies P e u
  | .str _ => ∃ fs, P.underlying t = some (.struct fs) ∧ FldOK P sh fs
  | .slice e => P.underlying t = some (.slice e)
  | .other => True

structure TyOK (P : Program) (t : TypeId) (ty : Ty) : Prop where
  lies : Lies P t ty.sh
  zero : ∃ i, P.info? t = some i ∧ i.zero = some ty.zero.val ∧ i.bytes = ty.bytes
  zwf : ty.zero.WF ∧ ty.zero.shape = ty.sh
  kd : KdOK P t ty.sh ty.kd
  eqg : ty.eq = true → P.eqGuardType P.depth t = false
  eq : ty.eq = true → ∀ (w : World) (x y : D), x.WF → y.WF → x.shape = ty.sh → y.shape = ty.sh → (Op.equal t x.val y.val).run P w = .ok (x.eqv y) w

/-- A function of the program that reverses a []int in place. -/
structure RevOK (P : Program) (g : Nat) : Prop where
  fn : ∃ fn, P.funcs[g]? = some fn ∧ fn.body.isNone = false ∧ (fn.name == "runtime.NumGoroutine") = false
  run : ∀ (blk cap : Nat) (zs : List Int) (w : World), Sort.Holds (Value.int .i64) w blk 0 zs.toArray → zs.length ≤ 9223372036854775807 →
    Calls P g #[.slice (some ⟨blk, 0, none⟩) zs.length cap] w fun e w' => e = .returned (.tuple #[]) ∧ ∃ n, w' = Sort.putRow (Value.int .i64) (Sort.ahead w n) blk 0 zs.reverse.toArray
  run0 : ∀ (a : Option Addr) (cap : Nat) (w : World), Calls P g #[.slice a 0 cap] w fun e w' => e = .returned (.tuple #[]) ∧ w' = w

structure EnvOK (P : Program) (E : Env) : Prop where
  ty : ∀ t ty, E.ty t = some ty → TyOK P t ty
  rv : ∀ g, rvF = some g → RevOK P g
instance {P : Program} {E : Env} : CoeFun (EnvOK P E) (fun _ => ∀ t ty, E.ty t = some ty → TyOK P t ty) := ⟨EnvOK.ty⟩

section
variable {P : Program} {w : World}

theorem size_run {t : TypeId} {i : TypeInfo} (h : P.info? t = some i) (w : World) : (sizeOf t).run P w = .ok i.size w := by simp [sizeOf, typeInfo, h]
theorem Lies.sizeOf {t : TypeId} {u : Sh} (h : Lies P t u) (w : World) : (sizeOf t).run P w = .ok u.size w := by
  obtain ⟨i, d, h1, h2, _, _⟩ := h
  rw [size_run h1 w, h2]

theorem val_agg {x : D} (h : x.shape.isAgg = true) : x.val = .agg x.flat.toArray := by
  cases x with
  | s v => simp [D.shape, Sh.isAgg] at h
  | _ => rfl

theorem flat_cell {x : D} (h : x.shape.isAgg = false) : x.flat = [x.val] := by
  cases x with
  | s v => rfl
  | _ => simp [D.shape, Sh.isAgg] at h

theorem size_cell {u : Sh} (h : u.isAgg = false) : u.size = 1 := by
  cases u with
  | cell c => rfl
  | _ => simp [Sh.isAgg] at h

/-- What lies there is loaded. -/
theorem run_load {t : TypeId} {u : Sh} (h : Lies P t u) {x : D} (hx : x.WF) (hs : x.shape = u) {g o : Nat}
    (hc : ∀ j v, x.flat[j]? = some v → w.cell? ⟨g, o + j, none⟩ = some v) : (loadVar t ⟨g, o, none⟩).run P w = .ok x.val w := by
  obtain ⟨i, d, h1, h2, h3, h4⟩ := h
  cases ha : u.isAgg with
  | true =>
    rw [ha] at h4
    rw [run_loadVar_mid w g o t x.flat d hc h3 h4 (by rw [h1]; simp [x.flat_length hx, hs, h2])]
    rw [val_agg (by rw [hs]; exact ha)]
  | false =>
    rw [ha] at h4
    have hfl := flat_cell (x := x) (by rw [hs]; exact ha)
    have h0 := hc 0 x.val (by rw [hfl]; rfl)
    have hagg : (isAgg t).run P w = .ok false w := by
      unfold isAgg
      rw [Sem.run_bind, run_underlying h3 w]
      cases d <;> simp_all
    simp only [loadVar, Sem.run_bind, hagg, Result.andThen_ok, Bool.false_eq_true, if_false, Go.run_load]
    rw [show (⟨g, o, none⟩ : Addr) = ⟨g, o + 0, none⟩ by simp, h0]

/-- The part of a datum, as the model takes it out of a value. -/
theorem run_part {t : TypeId} {u : Sh} (h : Lies P t u) {y : D} (hy : y.WF) (hs : y.shape = u) {l r : List Value} {off : Nat} (hl : l.length = off) :
    (part t (l ++ (y.flat ++ r)).toArray off).run P w = .ok y.val w := by
  subst hl
  obtain ⟨i, d, h1, h2, h3, h4⟩ := h
  have hlen := y.flat_length hy
  cases ha : u.isAgg with
  | true =>
    rw [ha] at h4
    have hagg : (isAgg t).run P w = .ok true w := by
      unfold isAgg
      rw [Sem.run_bind, run_underlying h3 w]
      cases d <;> simp_all
    simp only [part, Sem.run_bind, hagg, Result.andThen_ok, if_true, size_run h1, Sem.run_pure]
    rw [val_agg (by rw [hs]; exact ha), h2, ← hs, ← hlen, extract_mid]
  | false =>
    rw [ha] at h4
    have hagg : (isAgg t).run P w = .ok false w := by
      unfold isAgg
      rw [Sem.run_bind, run_underlying h3 w]
      cases d <;> simp_all
    have hfl := flat_cell (x := y) (by rw [hs]; exact ha)
    simp only [part, Sem.run_bind, hagg, Result.andThen_ok, Bool.false_eq_true, if_false]
    have : (l ++ (y.flat ++ r)).toArray[l.length]? = some y.val := by rw [hfl]; simp
    rw [this]; rfl

theorem splice_row (w : World) (g : Nat) (T : TypeId) (l m r v : List Value) (hg : w.heap[g]? = some (.cells (l ++ (m ++ r)).toArray T (0, 0))) (hv : v.length = m.length) (h1 : ∀ u ∈ v, u.oneCell' = true) :
    (storeCells ⟨g, l.length, none⟩ v).run P w = .ok () (w.setRow g (l ++ (v ++ r)).toArray) := by
  rw [run_storeCells_at P g l.length T v 0 _ w hg (by simp [hv]) h1]
  congr 3
  simp only [Nat.add_zero, List.take_left]
  rw [hv, ← List.append_assoc, List.append_assoc l m r]
  rw [show l ++ (m ++ r) = (l ++ m) ++ r by simp, show l.length + m.length = (l ++ m).length by simp, List.drop_left]
  simp

/-- A datum is stored into a variable, at a path. -/
theorem run_store_at {t : TypeId} {u : Sh} (h : Lies P t u) {x v : D} {p : List Nat} (hx : x.WF) (hp : x.shape.sub p = some u) (hv : v.WF) (hs : v.shape = u) {g : Nat} {T : TypeId} {rest : List Value}
    (hg : w.heap[g]? = some (.cells (x.flat ++ rest).toArray T (0, 0))) :
    (storeVar t ⟨g, x.shape.off p, none⟩ v.val).run P w = .ok () (w.setRow g ((x.set p v).flat ++ rest).toArray) := by
  obtain ⟨i, d, h1, h2, _, _⟩ := h
  obtain ⟨g1, g2, l, r, e1, e2, e3⟩ := x.at_path p u hx hp
  obtain ⟨_, _, k3⟩ := e3 v hv hs
  have hlen : v.flat.length = (x.get p).flat.length := by rw [v.flat_length hv, (x.get p).flat_length g1, g2, hs]
  have hsz : v.val.cells.size = i.size := by rw [v.val_cells hv]; simp [v.flat_length hv, hs, h2]
  rw [e1, List.append_assoc, List.append_assoc] at hg
  have := splice_row (P := P) w g T l (x.get p).flat (r ++ rest) v.flat hg hlen (v.flat_one hv)
  simp only [storeVar, Sem.run_bind, size_run h1, Result.andThen_ok, hsz, ne_eq, not_true_eq_false, if_false]
  rw [v.val_cells hv, ← e2, k3]
  simpa using this

theorem fold_splice (off : Nat) : ∀ (v : List Value) (j : Nat) (l m r : List Value), l.length = off + j → m.length = v.length →
    (v.zipIdx j).foldl (fun (cs : Array Value) (q : Value × Nat) => cs.setIfInBounds (off + q.2) q.1) (l ++ (m ++ r)).toArray = (l ++ (v ++ r)).toArray
  | [], j, l, m, r, _, hm => by
    have : m = [] := List.eq_nil_of_length_eq_zero (by simpa using hm)
    subst this; rfl
  | x :: v, j, l, m, r, hl, hm => by
    cases m with
    | nil => simp at hm
    | cons y m =>
      have h1 : (l ++ ((y :: m) ++ r)).toArray.setIfInBounds (off + j) x = ((l ++ [x]) ++ (m ++ r)).toArray := by
        rw [← hl]; simp
      have ih := fold_splice off v (j + 1) (l ++ [x]) m r (by simp; omega) (by simpa using hm)
      simp only [List.zipIdx_cons, List.foldl_cons, h1, ih]
      simp

/-- One part more of a struct or an array that is built. -/
theorem fill_step {place : Nat → Option (Nat × Nat)} {z v : D} {i : Nat} {u : Sh} (hz : z.WF) (hs : z.shape.sub [i] = some u) (hv : v.WF) (hvs : v.shape = u) (hp : place i = some (z.shape.off [i], u.size))
    (rest : List (Nat × Value)) : Instr.fill place z.flat.toArray ((i, v.val) :: rest) = Instr.fill place (z.set [i] v).flat.toArray rest := by
  obtain ⟨g1, g2, l, r, e1, e2, e3⟩ := z.at_path [i] u hz hs
  obtain ⟨_, _, k3⟩ := e3 v hv hvs
  have hc := v.val_cells hv
  have hlen : v.flat.length = u.size := by rw [v.flat_length hv, hvs]
  have hlen2 : (z.get [i]).flat.length = v.flat.length := by rw [(z.get [i]).flat_length g1, g2, hlen]
  have hle : ¬ (z.shape.off [i] + v.val.cells.size > z.flat.toArray.size) := by rw [hc, e1, ← e2]; simp [hlen2]
  have hsz : ¬ (v.val.cells.size ≠ u.size) := by rw [hc]; simp [hlen]
  conv => lhs; unfold Instr.fill
  simp only [hp, hsz, hle, decide_false, Bool.or_self, Bool.false_eq_true, if_false]
  rw [hc]
  have hf := fold_splice (z.shape.off [i]) v.flat 0 l (z.get [i]).flat r (by simp [e2]) hlen2
  have : (v.flat.toArray.zipIdx).foldl (fun (cs : Array Value) (q : Value × Nat) => cs.setIfInBounds (z.shape.off [i] + q.2) q.1) z.flat.toArray = (z.set [i] v).flat.toArray := by
    rw [e1, k3, ← hf]
    simp
  rw [← this]
end
end Go.Proofs.YtjceimcepogkaaaGreatDoor.Ev
