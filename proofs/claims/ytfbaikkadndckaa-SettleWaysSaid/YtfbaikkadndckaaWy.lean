/- settle.Ways' row, sorted. -/
import Derived.Test.YtfbaikkadndckaaSq
import Derived.Test.YtfbaikkadndckaaWz
import Derived.Shelf.SlSortCmp.NoneTotal
namespace Go.Proofs.Ytfbaikkadndckaa.Ev
open Go
attribute [local congr] ob_congr sq_congr cd_congr ite_congr1 iter_congr it1_congr jumps_congr
set_option maxRecDepth 100000
set_option linter.unusedSimpArgs false
set_option linter.unusedVariables false
open Go.RowKit Go.Proofs Go.Sort
theorem ws_len (l : List (Int × Int)) : (ws l).length = l.length := List.length_map ..
theorem goodW (l : List (Int × Int)) : Good shW (ws l) := fun x hx => by
  obtain ⟨z, _, rfl⟩ := List.mem_map.1 hx; exact ⟨⟨rfl, rfl, trivial⟩, rfl⟩
theorem flatW (l : List (Int × Int)) : (flatK encW 2 l.toArray).toList = flats (ws l) := by
  have hl : (flats (ws l)).length = l.length * 2 := by rw [flats_length (goodW l), ws_len]; rfl
  apply List.ext_getElem
  · rw [hl]; simp
  · intro t h1 h2
    have ht : t < l.length * 2 := by rw [hl] at h2; exact h2
    have hi : t / 2 < l.length := by omega
    have g := get_flatK encW 2 l.toArray t (by simpa using ht)
    rw [getElem!_pos _ t (by simpa using ht)] at g
    rw [Array.getElem_toList, g, getElem!_pos l.toArray (t / 2) (by simpa using hi)]
    have hx : (ws l)[t / 2]? = some (wayD l[t / 2].1 l[t / 2].2) := by simp [hi]
    rcases (show t % 2 = 0 ∨ t % 2 = 1 by omega) with hm | hm
    · have q := flats_at (goodW l) hx (j := 0) (v := .int .i64 l[t / 2].1) rfl
      rw [show t / 2 * Sh.size shW + 0 = t by show t / 2 * 2 + 0 = t; omega, List.getElem?_eq_getElem h2] at q
      rw [hm]; simpa [encW] using q.symm
    · have q := flats_at (goodW l) hx (j := 1) (v := .int .u32 l[t / 2].2) rfl
      rw [show t / 2 * Sh.size shW + 1 = t by show t / 2 * 2 + 1 = t; omega, List.getElem?_eq_getElem h2] at q
      rw [hm]; simpa [encW] using q.symm
theorem holdsW {w : World} {g : Nat} {cur : Array Value} {e : TypeId} {l : List (Int × Int)} (hb : w.heap[g]? = some (.cells cur e (0, 0))) (ht : cur.toList.take (l.length * 2) = flats (ws l)) : HoldsK encW 2 w g 0 l.toArray := by
  intro j hj
  have hj' : j < l.length * 2 := by simpa using hj
  refine ⟨?_, by simp [World.frozen?, hb]⟩
  have h1 : (cur.toList.take (l.length * 2))[j]? = (flatK encW 2 l.toArray).toList[j]? := by rw [ht, flatW]
  rw [List.getElem?_take_of_lt hj'] at h1
  simp only [World.cell?, hb, Nat.zero_add]
  simp only [Option.isSome_none, Bool.false_eq_true, if_false]
  rw [← Array.getElem?_toList, h1, Array.getElem?_toList, Array.getElem?_eq_getElem hj, getElem!_pos _ j hj]
  rfl
theorem heapW {w : World} {g n : Nat} {os : Array Obj} {cur : Array Value} {e : TypeId} {fr : Nat × Nat} (d : Array (Int × Int)) (hb : w.heap[g]? = some (.cells cur e fr)) :
    (sortWorldK encW 2 w g 0 n d os).heap[g]? = some (.cells (putCells id 0 (flatK encW 2 d) cur) e fr) := by
  have hg : g < w.heap.size := (Array.getElem?_eq_some_iff.1 hb).1
  unfold sortWorldK putRowK
  rw [heap_grow_old _ _ (by simpa using hg)]
  simp [putRow, mapBlock, Sort.ahead, Array.getElem?_modify, hb, onCells]
theorem takeW (cur : Array Value) (F : Array Value) (h : F.size ≤ cur.size) : (putCells id 0 F cur).toList.take F.size = F.toList := by
  apply List.ext_getElem?
  intro j
  by_cases hj : j < F.size
  · rw [List.getElem?_take_of_lt hj, Array.getElem?_toList]
    simp [putCells, hj, show j < cur.size by omega]
  · rw [List.getElem?_take_eq_none (by omega), List.getElem?_eq_none (by simp; omega)]
theorem belowW {w : World} {B g n : Nat} {os : Array Obj} (d : Array (Int × Int)) (hg : B ≤ g) (hB : B ≤ w.heap.size) : Below B w (sortWorldK encW 2 w g 0 n d os) := by
  unfold sortWorldK putRowK
  refine ⟨rfl, rfl, rfl, by simp, fun k hk => ?_, Nat.le_add_right _ _⟩
  rw [heap_grow_old _ _ (by simp; omega)]
  have : g ≠ k := by omega
  simp [putRow, mapBlock, Sort.ahead, Array.getElem?_modify, this]
/-- The row sorted: there is only one list that it can hold. -/
theorem sort_row {w : World} {B : Nat} {l l' : List (Int × Int)} {u : Value} (hr : RO w B shW (ws l) u) (hB : B ≤ w.heap.size) (hsz : l.length ≤ 1000) (hp : l'.Perm l) (hs : l'.Pairwise leW) :
    Calls Try.prog 107 #[u, .func (.func 108) #[] #[]] w fun e w' => e = .returned (.tuple #[]) ∧ RO w' B shW (ws l') u ∧ Below B w w' := by
  have hlen := hp.length_eq
  obtain ⟨hg, e0, ho⟩ := hr
  rcases ho.2 with ⟨rfl, h2⟩ | ⟨g, cap, cur, rfl, hb, hcur, hnc, hcm, hcs, htk⟩
  · rw [ws_len] at h2
    obtain rfl := List.eq_nil_of_length_eq_zero h2
    obtain rfl := List.eq_nil_of_length_eq_zero hlen
    exact (AnyF.slices_SortFunc_none srtLays none 0 _ w).mono fun e w' ⟨h1, h2⟩ => by
      subst h2; exact ⟨h1, ⟨hg, e0, ho⟩, Below.refl _ _⟩
  · rw [ws_len] at *
    have hH := holdsW hcur htk
    have hgl := lt_of_heap hcur
    have := sortW_calls g 0 cap l.toArray w hH hgl (by simp; omega)
    rw [show l.toArray.size = l.length by simp] at this
    refine this.mono fun e w' ⟨h1, d', n, os, h2, h3, h4⟩ => ⟨h1, ?_, by subst h4; exact belowW d' hb hB⟩
    have hd : d'.toList = l' := sorted_unique (d := l.toArray) (by simpa using h2) (by simpa using h3) (by simpa using hp) hs
    have hd' : d' = l'.toArray := by rw [← hd]
    subst hd'
    subst h4
    refine ⟨goodW l', e0, ?_, .inr ⟨g, cap, _, ?_, hb, heapW _ hcur, ?_, hcm, by simp [putCells, hcs], ?_⟩⟩
    · rw [ws_len]; rw [flats_length (goodW l'), ws_len]
    · rw [ws_len, hlen]
    · rw [ws_len, hlen]; exact hnc
    · rw [ws_len, ← flatW]
      have hz : (flatK encW 2 l'.toArray).size = l'.length * 2 := by simp
      have q := takeW cur (flatK encW 2 l'.toArray) (by
        rw [hz, hcs, hlen]
        exact Nat.mul_le_mul_right 2 hnc)
      rw [hz] at q
      exact q
end Go.Proofs.Ytfbaikkadndckaa.Ev
