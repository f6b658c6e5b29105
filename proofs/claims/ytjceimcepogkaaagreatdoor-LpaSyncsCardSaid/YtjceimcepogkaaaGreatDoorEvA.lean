/-
  The pure data of the evaluator: shapes, data, their cells; what is read and written at a path.
  Plain Lean over the model's values; no program in sight.
-/
import Derived.WalkKit
namespace Go.Proofs.YtjceimcepogkaaaGreatDoor.Ev
open Go

/-- What a cell holds. -/
inductive CK where
  | int (k : IntKind)
  | bool
  | string
  | float (k : FloatKind)
  | other
  deriving DecidableEq

def ck : Value → CK
  | .int k _ => .int k
  | .bool _ => .bool
  | .string _ => .string
  | .float k _ => .float k
  | _ => .other

inductive Sh where
  | cell (c : CK)
  | arr (n : Nat) (s : Sh)
  | nil
  | cons (a b : Sh)
  deriving DecidableEq

def Sh.size : Sh → Nat
  | .cell _ => 1
  | .arr n s => n * s.size
  | .nil => 0
  | .cons a b => a.size + b.size

def Sh.sub : Sh → List Nat → Option Sh
  | s, [] => some s
  | .arr n s, i :: p => if i < n then s.sub p else none
  | .cons a _, 0 :: p => a.sub p
  | .cons _ b, (i + 1) :: p => b.sub (i :: p)
  | _, _ => none

def Sh.off : Sh → List Nat → Nat
  | .arr _ s, i :: p => i * s.size + s.off p
  | .cons a _, 0 :: p => a.off p
  | .cons a b, (i + 1) :: p => a.size + b.off (i :: p)
  | _, _ => 0

def Sh.isAgg : Sh → Bool
  | .cell _ => false
  | _ => true

inductive D where
  | s (x : Value)
  | arr (n : Nat) (sh : Sh) (f : Nat → D)
  | nil
  | cons (a b : D)

def D.shape : D → Sh
  | .s x => .cell (ck x)
  | .arr n sh _ => .arr n sh
  | .nil => .nil
  | .cons a b => .cons a.shape b.shape

def D.flat : D → List Value
  | .s x => [x]
  | .arr n _ f => (List.range n).flatMap fun i => (f i).flat
  | .nil => []
  | .cons a b => a.flat ++ b.flat

def D.WF : D → Prop
  | .s x => x.oneCell' = true
  | .arr _ sh f => ∀ i, (f i).WF ∧ (f i).shape = sh
  | .nil => True
  | .cons a b => a.WF ∧ b.WF

def D.val : D → Value
  | .s x => x
  | .arr n sh f => .agg (D.arr n sh f).flat.toArray
  | .nil => .agg #[]
  | .cons a b => .agg (D.cons a b).flat.toArray

def D.get : D → List Nat → D
  | x, [] => x
  | .arr _ _ f, i :: p => (f i).get p
  | .cons a _, 0 :: p => a.get p
  | .cons _ b, (i + 1) :: p => b.get (i :: p)
  | x, _ :: _ => x

def D.set : D → List Nat → D → D
  | _, [], v => v
  | .arr n sh f, i :: p, v => .arr n sh fun j => if j = i then (f j).set p v else f j
  | .cons a b, 0 :: p, v => .cons (a.set p v) b
  | .cons a b, (i + 1) :: p, v => .cons a (b.set (i :: p) v)
  | x, _ :: _, _ => x

theorem D.get_nil (x : D) : x.get [] = x := by cases x <;> rfl
theorem D.set_nil (x v : D) : x.set [] v = v := by cases x <;> rfl
theorem D.get_arr (n : Nat) (sh : Sh) (f : Nat → D) (i : Nat) (p : List Nat) : (D.arr n sh f).get (i :: p) = (f i).get p := rfl
theorem D.get_cons0 (a b : D) (p : List Nat) : (D.cons a b).get (0 :: p) = a.get p := rfl
theorem D.get_consS (a b : D) (i : Nat) (p : List Nat) : (D.cons a b).get ((i + 1) :: p) = b.get (i :: p) := rfl
theorem D.set_arr (n : Nat) (sh : Sh) (f : Nat → D) (i : Nat) (p : List Nat) (v : D) : (D.arr n sh f).set (i :: p) v = .arr n sh fun j => if j = i then (f j).set p v else f j := rfl
theorem D.set_cons0 (a b : D) (p : List Nat) (v : D) : (D.cons a b).set (0 :: p) v = .cons (a.set p v) b := rfl
theorem D.set_consS (a b : D) (i : Nat) (p : List Nat) (v : D) : (D.cons a b).set ((i + 1) :: p) v = .cons a (b.set (i :: p) v) := rfl

theorem flatMap_length {f : Nat → D} {c : Nat} (h : ∀ i, (f i).flat.length = c) : ∀ n, ((List.range n).flatMap fun i => (f i).flat).length = n * c
  | 0 => by simp
  | n + 1 => by rw [List.range_succ, List.flatMap_append, List.length_append, flatMap_length h n]; simp [h, Nat.add_mul]

theorem D.flat_length : ∀ (x : D), x.WF → x.flat.length = x.shape.size
  | .s _, _ => rfl
  | .arr n sh f, h => by
    simp only [D.flat, D.shape, Sh.size]
    exact flatMap_length (fun i => by rw [(f i).flat_length (h i).1, (h i).2]) n
  | .nil, _ => rfl
  | .cons a b, h => by simp [D.flat, D.shape, Sh.size, a.flat_length h.1, b.flat_length h.2]

theorem D.val_cells (x : D) (h : x.WF) : x.val.cells = x.flat.toArray := by
  cases x with
  | s v =>
    simp only [D.WF] at h
    cases v <;> simp_all [D.val, D.flat, Value.cells, Value.oneCell']
  | arr n sh f => rfl
  | nil => rfl
  | cons a b => rfl

theorem D.flat_one : ∀ (x : D), x.WF → ∀ u ∈ x.flat, u.oneCell' = true
  | .s x, h, u, hu => by simp [D.flat] at hu; subst hu; exact h
  | .arr n sh f, h, u, hu => by
    simp only [D.flat, List.mem_flatMap] at hu
    obtain ⟨i, _, hi⟩ := hu
    exact (f i).flat_one (h i).1 u hi
  | .nil, _, u, hu => by simp [D.flat] at hu
  | .cons a b, h, u, hu => by
    simp only [D.flat, List.mem_append] at hu
    rcases hu with hu | hu
    · exact a.flat_one h.1 u hu
    · exact b.flat_one h.2 u hu

theorem range_split {n i : Nat} (h : i < n) : List.range n = List.range i ++ i :: (List.range (n - i - 1)).map (i + 1 + ·) := by
  have e : n = i + (1 + (n - i - 1)) := by omega
  conv => lhs; rw [e]
  rw [List.range_add, List.range_add]
  simp [List.map_map, Function.comp_def, Nat.add_assoc]

/-- What lies at a path: where it is in the cells, and what the cells are once it is written. -/
theorem D.at_path : ∀ (x : D) (p : List Nat) (t : Sh), x.WF → x.shape.sub p = some t →
    (x.get p).WF ∧ (x.get p).shape = t ∧ ∃ l r, x.flat = l ++ ((x.get p).flat ++ r) ∧ l.length = x.shape.off p ∧
      ∀ v : D, v.WF → v.shape = t → (x.set p v).WF ∧ (x.set p v).shape = x.shape ∧ (x.set p v).flat = l ++ (v.flat ++ r)
  | x, [], t, h, hs => by
    have e : x.shape = t := by cases hx : x.shape <;> simp_all [Sh.sub]
    refine ⟨by rw [D.get_nil]; exact h, by rw [D.get_nil]; exact e, [], [], by rw [D.get_nil]; simp, ?_, fun v hv hvs => ?_⟩
    · cases x.shape <;> rfl
    · rw [D.set_nil]; exact ⟨hv, hvs.trans e.symm, by simp⟩
  | .s x, i :: p, t, h, hs => by simp [D.shape, Sh.sub] at hs
  | .nil, i :: p, t, h, hs => by simp [D.shape, Sh.sub] at hs
  | .arr n sh f, i :: p, t, h, hs => by
    simp only [D.shape, Sh.sub] at hs
    by_cases hi : i < n
    · rw [if_pos hi] at hs
      obtain ⟨hw, hsh⟩ := h i
      obtain ⟨g1, g2, l, r, e1, e2, e3⟩ := D.at_path (f i) p t hw (by rw [hsh]; exact hs)
      have hlen : ∀ j, (f j).flat.length = sh.size := fun j => by rw [(f j).flat_length (h j).1, (h j).2]
      refine ⟨g1, g2, ((List.range i).flatMap fun j => (f j).flat) ++ l, r ++ ((List.range (n - i - 1)).map (i + 1 + ·)).flatMap fun j => (f j).flat, ?_, ?_, fun v hv hvs => ?_⟩
      · simp only [D.flat, D.get]
        rw [range_split hi, List.flatMap_append, List.flatMap_cons, e1]
        simp [List.append_assoc]
      · rw [List.length_append, flatMap_length hlen, e2, hsh]; rfl
      · obtain ⟨k1, k2, k3⟩ := e3 v hv hvs
        have hne : ∀ j, j ≠ i → (if j = i then (f j).set p v else f j) = f j := fun j hj => if_neg hj
        refine ⟨fun j => ?_, rfl, ?_⟩
        · by_cases hj : j = i
          · subst hj; simp only [if_true]; exact ⟨k1, k2.trans hsh⟩
          · simp only [hj, if_false]; exact h j
        · simp only [D.flat, D.set]
          rw [range_split hi, List.flatMap_append, List.flatMap_cons]
          have a1 : ((List.range i).flatMap fun j => (if j = i then (f j).set p v else f j).flat) = (List.range i).flatMap fun j => (f j).flat := by
            simp only [List.flatMap]
            congr 1
            refine List.map_congr_left fun j hj => ?_
            rw [hne j (by have := List.mem_range.1 hj; omega)]
          have a2 : (((List.range (n - i - 1)).map (i + 1 + ·)).flatMap fun j => (if j = i then (f j).set p v else f j).flat) = ((List.range (n - i - 1)).map (i + 1 + ·)).flatMap fun j => (f j).flat := by
            simp only [List.flatMap]
            congr 1
            refine List.map_congr_left fun j hj => ?_
            obtain ⟨k, _, rfl⟩ := List.mem_map.1 hj
            rw [hne _ (by omega)]
          rw [a1, a2]
          simp only [if_true, k3, List.append_assoc]
    · rw [if_neg hi] at hs; simp at hs
  | .cons a b, 0 :: p, t, h, hs => by
    simp only [D.shape, Sh.sub] at hs
    obtain ⟨g1, g2, l, r, e1, e2, e3⟩ := D.at_path a p t h.1 hs
    refine ⟨g1, g2, l, r ++ b.flat, ?_, e2, fun v hv hvs => ?_⟩
    · simp only [D.flat, D.get, e1, List.append_assoc]
    · obtain ⟨k1, k2, k3⟩ := e3 v hv hvs
      exact ⟨⟨k1, h.2⟩, by simp only [D.set, D.shape, k2], by simp only [D.flat, D.set, k3, List.append_assoc]⟩
  | .cons a b, (i + 1) :: p, t, h, hs => by
    simp only [D.shape, Sh.sub] at hs
    obtain ⟨g1, g2, l, r, e1, e2, e3⟩ := D.at_path b (i :: p) t h.2 hs
    refine ⟨g1, g2, a.flat ++ l, r, ?_, ?_, fun v hv hvs => ?_⟩
    · simp only [D.flat, D.get, e1, List.append_assoc]
    · rw [List.length_append, a.flat_length h.1, e2]; rfl
    · obtain ⟨k1, k2, k3⟩ := e3 v hv hvs
      exact ⟨⟨h.1, k1⟩, by simp only [D.set, D.shape, k2], by simp only [D.flat, D.set, k3, List.append_assoc]⟩

theorem Sh.sub_append : ∀ (sh : Sh) (p q : List Nat) (t : Sh), sh.sub p = some t → sh.sub (p ++ q) = t.sub q ∧ sh.off (p ++ q) = sh.off p + t.off q
  | sh, [], q, t, h => by
    have e : sh = t := by cases sh <;> simp_all [Sh.sub]
    subst e
    cases sh <;> simp [Sh.off]
  | .cell _, i :: p, q, t, h => by simp [Sh.sub] at h
  | .nil, i :: p, q, t, h => by simp [Sh.sub] at h
  | .arr n s, i :: p, q, t, h => by
    simp only [Sh.sub] at h
    by_cases hi : i < n
    · rw [if_pos hi] at h
      obtain ⟨h1, h2⟩ := Sh.sub_append s p q t h
      simp only [List.cons_append, Sh.sub, Sh.off, hi, if_true, h1, h2, Nat.add_assoc, and_self]
    · rw [if_neg hi] at h; simp at h
  | .cons a b, 0 :: p, q, t, h => by
    simp only [Sh.sub] at h
    exact Sh.sub_append a p q t h
  | .cons a b, (i + 1) :: p, q, t, h => by
    simp only [Sh.sub] at h
    obtain ⟨h1, h2⟩ := Sh.sub_append b (i :: p) q t h
    refine ⟨h1, ?_⟩
    simp only [List.cons_append, Sh.off] at h2 ⊢
    rw [h2, Nat.add_assoc]

/-- Equality of data, cell by cell: what Go's '==' finds. -/
def veq : Value → Value → Bool
  | .int _ a, .int _ b => a == b
  | .bool a, .bool b => a == b
  | .string a, .string b => a == b
  | _, _ => false

def D.eqv : D → D → Bool
  | .s x, .s y => veq x y
  | .arr n _ f, .arr _ _ g => (List.range n).all fun i => (f i).eqv (g i)
  | .nil, .nil => true
  | .cons a b, .cons c d => a.eqv c && b.eqv d
  | _, _ => false

/-- The part of a list that a slice's, or a struct's, cells are. -/
theorem extract_mid (l m r : List Value) : (l ++ (m ++ r)).toArray.extract l.length (l.length + m.length) = m.toArray := by
  apply Array.ext'
  simp

end Go.Proofs.YtjceimcepogkaaaGreatDoor.Ev
