/- slices.SortFunc at []api.Way: the contract of the shelf, laid at the numbers of this program. -/
import Derived.Shelf.SlSortCmp.WholeK
import Derived.Test.YtfbaikkadndckaaChecked
import Derived.KernelRfl
namespace Go.Proofs.Ytfbaikkadndckaa.Ev
open Go Go.Proofs
set_option maxRecDepth 1000000
def srtRen : Go.Shelf.Ren := ⟨fun x => if x = 6 then 107 else if x = 14 then 142 else if x = 15 then 143 else if x = 20 then 159 else if x = 21 then 160 else if x = 22 then 161 else if x = 23 then 162 else if x = 24 then 163 else if x = 25 then 164 else if x = 26 then 165 else if x = 27 then 166 else if x = 28 then 167 else if x = 29 then 168 else if x = 46 then 175 else if x = 47 then 176 else if x = 48 then 177 else if x = 49 then 178 else if x = 50 then 179 else if x = 57 then 182 else x, fun x => if x = 0 then 0 else if x = 3 then 3 else if x = 4 then 4 else if x = 5 then 5 else if x = 9 then 9 else if x = 22 then 78 else if x = 24 then 81 else if x = 25 then 152 else if x = 39 then 148 else if x = 45 then 185 else if x = 46 then 186 else if x = 50 then 190 else if x = 53 then 22 else if x = 55 then 33 else if x = 66 then 199 else if x = 70 then 203 else if x = 76 then 205 else if x = 77 then 206 else x, fun x => x⟩
theorem srtLays : SlLaysF0.n6 Try.prog srtRen where
  mixed := by rfl
  f6 := ⟨_, by kernel_rfl, by rfl⟩
  f14 := ⟨_, by kernel_rfl, by rfl⟩
  f15 := by rfl
  f20 := ⟨_, by kernel_rfl, by rfl⟩
  f21 := ⟨_, by kernel_rfl, by rfl⟩
  f22 := ⟨_, by kernel_rfl, by rfl⟩
  f23 := ⟨_, by kernel_rfl, by rfl⟩
  f24 := ⟨_, by kernel_rfl, by rfl⟩
  f25 := ⟨_, by kernel_rfl, by rfl⟩
  f26 := ⟨_, by kernel_rfl, by rfl⟩
  f27 := ⟨_, by kernel_rfl, by rfl⟩
  f28 := by rfl
  f29 := by rfl
  f46 := ⟨_, by kernel_rfl, by rfl⟩
  f47 := by rfl
  f48 := by rfl
  f49 := ⟨_, by kernel_rfl, by rfl⟩
  f50 := ⟨_, by kernel_rfl, by rfl⟩
  f57 := ⟨_, by kernel_rfl, by rfl⟩
  t0 := by rfl
  a0 := fun w => by rfl
  z0 := fun w => by rfl
  v0 := fun w => by rfl
  t3 := by rfl
  a3 := fun w => by rfl
  z3 := fun w => by rfl
  v3 := fun w => by rfl
  t4 := by rfl
  a4 := fun w => by rfl
  z4 := fun w => by rfl
  v4 := fun w => by rfl
  t5 := by rfl
  a5 := fun w => by rfl
  z5 := fun w => by rfl
  v5 := fun w => by rfl
  t9 := by rfl
  a9 := fun w => by rfl
  z9 := fun w => by rfl
  v9 := fun w => by rfl
  t22 := by rfl
  a22 := fun w => by rfl
  z22 := fun w => by rfl
  v22 := fun w => by rfl
  t25 := by rfl
  a25 := fun w => by rfl
  z25 := fun w => by rfl
  v25 := fun w => by rfl
  t39 := by rfl
  a39 := fun w => by rfl
  z39 := fun w => by rfl
  v39 := fun w => by rfl
  t45 := by rfl
  a45 := fun w => by rfl
  z45 := fun w => by rfl
  v45 := fun w => by rfl
  t46 := by rfl
  a46 := fun w => by rfl
  z46 := fun w => by rfl
  v46 := fun w => by rfl
  t50 := by rfl
  a50 := fun w => by rfl
  z50 := fun w => by rfl
  v50 := fun w => by rfl
  t53 := by rfl
  a53 := fun w => by rfl
  z53 := fun w => by rfl
  v53 := fun w => by rfl
  t55 := by rfl
  a55 := fun w => by rfl
  z55 := fun w => by rfl
  v55 := fun w => by rfl
  t66 := by rfl
  a66 := fun w => by rfl
  z66 := fun w => by rfl
  v66 := fun w => by rfl
  t70 := by rfl
  a70 := fun w => by rfl
  z70 := fun w => by rfl
  v70 := fun w => by rfl
  t76 := by rfl
  a76 := fun w => by rfl
  z76 := fun w => by rfl
  v76 := fun w => by rfl
  t77 := by rfl
  a77 := fun w => by rfl
  z77 := fun w => by rfl
  v77 := fun w => by rfl
end Go.Proofs.Ytfbaikkadndckaa.Ev
