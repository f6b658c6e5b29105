/- slices.SortFunc at ways: sorted by distance, then by neighbour. -/
import Derived.Test.YtfbaikkadndckaaSc
namespace Go.Proofs.Ytfbaikkadndckaa.Ev
open Go
attribute [local congr] ob_congr sq_congr cd_congr ite_congr1 iter_congr it1_congr jumps_congr
set_option maxRecDepth 100000
set_option linter.unusedSimpArgs false
set_option linter.unusedVariables false
open Go.Proofs
theorem cmpI_lt (x y : Int) : cmpI x y < 0 ↔ x < y := by
  unfold cmpI
  by_cases h : x < y
  · simp [h]
  · by_cases h2 : y < x <;> simp [h, h2]
theorem cmpI_zero (x y : Int) : cmpI x y = 0 ↔ x = y := by
  unfold cmpI
  by_cases h : x < y
  · simp [h]; omega
  · by_cases h2 : y < x
    · simp [h, h2]; omega
    · simp [h, h2]; omega
theorem ltW (x y : Int × Int) : Go.Proofs.ltOf cfW x y = decide (x.2 < y.2 ∨ (x.2 = y.2 ∧ x.1 < y.1)) := by
  unfold Go.Proofs.ltOf cfW wcmp or2
  have a := cmpI_lt x.2 y.2
  have b := cmpI_zero x.2 y.2
  have c := cmpI_lt x.1 y.1
  rw [decide_eq_decide]
  split
  · rename_i h
    have e := b.1 h
    rw [c]
    constructor
    · intro q; exact Or.inr ⟨e, q⟩
    · rintro (q | q)
      · omega
      · exact q.2
  · rename_i h
    rw [a]
    constructor
    · intro q; exact Or.inl q
    · rintro (q | q)
      · exact q
      · exact absurd (b.2 q.1) h
theorem swoW : Go.Sort.SWO (Go.Proofs.ltOf cfW) where
  irrefl x := by rw [ltW]; simp
  trans x y z h1 h2 := by rw [ltW] at *; simp at *; omega
  ntrans x y z h1 h2 := by rw [ltW] at *; simp at *; omega
theorem sortW_calls (blk off cap : Nat) (d : Array (Int × Int)) (w : World) (hH : Go.Sort.HoldsK encW 2 w blk off d) (hblk : blk < w.heap.size) (hsz : d.size < 4611686018427387904) :
    Calls Try.prog 107 #[.slice (some ⟨blk, off, none⟩) d.size cap, .func (.func 108) #[] #[]] w fun e w' =>
      e = .returned (.tuple #[]) ∧ ∃ d' n os, Go.Sort.PermIn 0 d.size d d' ∧ Go.Sort.SortedIn (Go.Proofs.ltOf cfW) 0 d.size d' ∧ w' = Go.Proofs.sortWorldK encW 2 w blk off n d' os :=
  Go.Proofs.AnyQ.slices_SortFunc srtLays 2 (fun w => by rfl) (fun w => by rfl) encW (fun _ => rfl) (fun x v hv => by simp [encW] at hv; rcases hv with rfl | rfl <;> rfl) cfW swoW 108 #[] blk off cap d w (enters_of Try.func108 (by kernel_rfl) rfl) (cmpLaysW blk off d.size w) hH hblk hsz
end Go.Proofs.Ytfbaikkadndckaa.Ev
