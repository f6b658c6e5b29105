/- settle.Ways' comparison as the sort wants it. -/
import Derived.Test.YtfbaikkadndckaaSr
import Derived.Test.YtfbaikkadndckaaXo
import Derived.Test.YtfbaikkadndckaaFacts
import Derived.Test.YtfbaikkadndckaaSrt
namespace Go.Proofs.Ytfbaikkadndckaa.Ev
open Go
attribute [local congr] ob_congr sq_congr cd_congr ite_congr1 iter_congr it1_congr jumps_congr
set_option maxRecDepth 100000
set_option linter.unusedSimpArgs false
set_option linter.unusedVariables false
def encW (x : Int × Int) : List Value := [.int .i64 x.1, .int .u32 x.2]
def cfW (x y : Int × Int) : Int := wcmp x.1 x.2 y.1 y.2
theorem world_grow {W w' : World} (h : Below W.heap.size W w') : ∃ q os, w' = Go.Sort.grow (W.drewN q) os := by
  refine ⟨w'.drawn - W.drawn, w'.heap.extract W.heap.size w'.heap.size, ?_⟩
  have hh : w'.heap = W.heap ++ w'.heap.extract W.heap.size w'.heap.size := by
    apply Array.ext_getElem?
    intro i
    by_cases hi : i < W.heap.size
    · rw [h.block i hi, Array.getElem?_append_left hi]
    · rw [Array.getElem?_append_right (by omega), Array.getElem?_extract]
      have hs := h.size
      by_cases h2 : i < w'.heap.size
      · rw [if_pos (by omega)]; congr 1; omega
      · rw [if_neg (by omega), Array.getElem?_eq_none (by omega)]
  have h1 := h.os
  have h2 := h.tape
  have h3 := h.output
  have h4 := h.drawn
  obtain ⟨hp, tp, dr, o, ou⟩ := w'
  obtain ⟨hp', tp', dr', o', ou'⟩ := W
  simp only at h1 h2 h3 h4 hh
  subst h1 h2 h3
  have e : dr = dr' + (dr - dr') := by omega
  simp only [Go.Sort.grow, World.drewN, World.mk.injEq, and_true, true_and]
  exact ⟨hh, e⟩
theorem cmpW_calls (x y : Int × Int) (W : World) : Calls Try.prog 108 (#[.agg (encW x).toArray, .agg (encW y).toArray] ++ #[]) W fun e w' => e = .returned (.int .i64 (cfW x y)) ∧ ∃ q os', w' = Go.Sort.grow (W.drewN q) os' := by
  refine ((evF_sound env_ok fns_ok (ext := xt) xt_ok 10 108 _ _ (waycmp_ev 7 x.1 x.2 y.1 y.2)).run W [.agg (encW x).toArray, .agg (encW y).toArray] ⟨⟨⟨rfl, rfl, trivial⟩, rfl⟩, ⟨⟨rfl, rfl, trivial⟩, rfl⟩, trivial⟩).mono fun e w' ⟨u, he, bel, hr⟩ => ?_
  refine ⟨?_, world_grow bel⟩
  obtain ⟨_, rfl⟩ := hr
  exact he
theorem cmpLaysW (blk off size : Nat) (w : World) : Go.Proofs.CmpLays Try.prog 108 #[] encW 2 cfW blk off size w := fun _ _ _ _ x y => cmpW_calls x y _
end Go.Proofs.Ytfbaikkadndckaa.Ev
