/- The facts of this program that the evaluator wants: written by a program (gen.py) out of the translation. -/
import Derived.Test.YthpccjgpbcginaaEvE
import Derived.Test.YthpccjgpbcginaaEnv
import Derived.Test.YthpccjgpbcginaaChecked
import Derived.KernelRfl
import Derived.Shelf.Slices.Reverse
namespace Go.Proofs.Ythpccjgpbcginaa.Ev
open Go
theorem zw2 : Z2.WF ∧ Z2.shape = .cell (.int .i64) := ⟨rfl, rfl⟩
theorem zw3 : Z3.WF ∧ Z3.shape = .cell (.int .i64) := ⟨rfl, rfl⟩
theorem zw4 : Z4.WF ∧ Z4.shape = .cell .bool := ⟨rfl, rfl⟩
theorem zw5 : Z5.WF ∧ Z5.shape = .cell (.int .u8) := ⟨rfl, rfl⟩
theorem zw6 : Z6.WF ∧ Z6.shape = .cell (.int .u8) := ⟨rfl, rfl⟩
theorem zw7 : Z7.WF ∧ Z7.shape = .cons (.cell (.int .i64)) (.cons (.cell (.int .i64)) (.cons (.cell .bool) (.cons (.cell (.int .u8)) (.nil)))) := ⟨⟨zw2.1, zw3.1, zw4.1, zw6.1, trivial⟩, rfl⟩
theorem zw8 : Z8.WF ∧ Z8.shape = .cons (.cell (.int .i64)) (.cons (.cell (.int .i64)) (.cons (.cell .bool) (.cons (.cell (.int .u8)) (.nil)))) := ⟨⟨zw2.1, zw3.1, zw4.1, zw6.1, trivial⟩, rfl⟩
theorem zw9 : Z9.WF ∧ Z9.shape = .cell .string := ⟨rfl, rfl⟩
theorem zw10 : Z10.WF ∧ Z10.shape = .cell .string := ⟨rfl, rfl⟩
theorem zw11 : Z11.WF ∧ Z11.shape = .cell .string := ⟨rfl, rfl⟩
theorem zw12 : Z12.WF ∧ Z12.shape = .cell (.int .u64) := ⟨rfl, rfl⟩
theorem zw13 : Z13.WF ∧ Z13.shape = .cons (.cell .string) (.cons (.cell (.int .u64)) (.nil)) := ⟨⟨zw9.1, zw12.1, trivial⟩, rfl⟩
theorem zw14 : Z14.WF ∧ Z14.shape = .cons (.cell .string) (.cons (.cell (.int .u64)) (.nil)) := ⟨⟨zw9.1, zw12.1, trivial⟩, rfl⟩
theorem zw21 : Z21.WF ∧ Z21.shape = .cell (.int .i32) := ⟨rfl, rfl⟩
theorem zw22 : Z22.WF ∧ Z22.shape = .arr 16 (.cell (.int .i64)) := ⟨fun _ => ⟨zw3.1, rfl⟩, rfl⟩
theorem zw23 : Z23.WF ∧ Z23.shape = .cons (.arr 16 (.cell (.int .i64))) (.cons (.cell (.int .i64)) (.cons (.cell (.int .i64)) (.cons (.cell (.int .i64)) (.nil)))) := ⟨⟨zw22.1, zw3.1, zw3.1, zw3.1, trivial⟩, rfl⟩
theorem zw24 : Z24.WF ∧ Z24.shape = .cons (.arr 16 (.cell (.int .i64))) (.cons (.cell (.int .i64)) (.cons (.cell (.int .i64)) (.cons (.cell (.int .i64)) (.nil)))) := ⟨⟨zw22.1, zw3.1, zw3.1, zw3.1, trivial⟩, rfl⟩
theorem zw31 : Z31.WF ∧ Z31.shape = .cell .other := ⟨rfl, rfl⟩
theorem zw32 : Z32.WF ∧ Z32.shape = .cell (.int .u64) := ⟨rfl, rfl⟩
theorem zw33 : Z33.WF ∧ Z33.shape = .cons (.cell (.int .i64)) (.cons (.arr 16 (.cell (.int .i64))) (.nil)) := ⟨⟨zw3.1, zw22.1, trivial⟩, rfl⟩
theorem zw34 : Z34.WF ∧ Z34.shape = .cons (.cell (.int .i64)) (.cons (.arr 16 (.cell (.int .i64))) (.nil)) := ⟨⟨zw3.1, zw22.1, trivial⟩, rfl⟩
theorem zw36 : Z36.WF ∧ Z36.shape = .arr 2 (.cell (.int .i64)) := ⟨fun _ => ⟨zw3.1, rfl⟩, rfl⟩
theorem zw41 : Z41.WF ∧ Z41.shape = .cell (.int .u64) := ⟨rfl, rfl⟩
theorem zw43 : Z43.WF ∧ Z43.shape = .cell (.int .u32) := ⟨rfl, rfl⟩
theorem zw44 : Z44.WF ∧ Z44.shape = .cons (.cell (.int .u32)) (.cons (.cell (.int .i64)) (.nil)) := ⟨⟨zw43.1, zw3.1, trivial⟩, rfl⟩
theorem zw45 : Z45.WF ∧ Z45.shape = .cons (.cell (.int .u32)) (.cons (.cell (.int .i64)) (.nil)) := ⟨⟨zw43.1, zw3.1, trivial⟩, rfl⟩
theorem zw46 : Z46.WF ∧ Z46.shape = .arr 16 (.cons (.cell (.int .u32)) (.cons (.cell (.int .i64)) (.nil))) := ⟨fun _ => ⟨zw45.1, rfl⟩, rfl⟩
theorem zw47 : Z47.WF ∧ Z47.shape = .arr 16 (.cons (.cell (.int .u32)) (.cons (.cell (.int .i64)) (.nil))) := ⟨fun _ => ⟨zw45.1, rfl⟩, rfl⟩
theorem zw48 : Z48.WF ∧ Z48.shape = .cell .other := ⟨rfl, rfl⟩
theorem zw56 : Z56.WF ∧ Z56.shape = .cell (.int .i64) := ⟨rfl, rfl⟩
theorem zw74 : Z74.WF ∧ Z74.shape = .cons (.cell (.int .i64)) (.cons (.cell (.int .i64)) (.cons (.cell (.int .u32)) (.nil))) := ⟨⟨zw3.1, zw3.1, zw43.1, trivial⟩, rfl⟩
theorem zw75 : Z75.WF ∧ Z75.shape = .cons (.cell (.int .i64)) (.cons (.cell (.int .i64)) (.cons (.cell (.int .u32)) (.nil))) := ⟨⟨zw3.1, zw3.1, zw43.1, trivial⟩, rfl⟩
theorem zw84 : Z84.WF ∧ Z84.shape = .cons (.cell (.int .u32)) (.cons (.cell (.int .i64)) (.cons (.cell (.int .i64)) (.nil))) := ⟨⟨zw43.1, zw3.1, zw3.1, trivial⟩, rfl⟩
theorem zw85 : Z85.WF ∧ Z85.shape = .cons (.cell (.int .u32)) (.cons (.cell (.int .i64)) (.cons (.cell (.int .i64)) (.nil))) := ⟨⟨zw43.1, zw3.1, zw3.1, trivial⟩, rfl⟩
theorem zw86 : Z86.WF ∧ Z86.shape = .arr 16 (.cons (.cell (.int .u32)) (.cons (.cell (.int .i64)) (.cons (.cell (.int .i64)) (.nil)))) := ⟨fun _ => ⟨zw85.1, rfl⟩, rfl⟩
theorem zw87 : Z87.WF ∧ Z87.shape = .arr 16 (.cons (.cell (.int .u32)) (.cons (.cell (.int .i64)) (.cons (.cell (.int .i64)) (.nil)))) := ⟨fun _ => ⟨zw85.1, rfl⟩, rfl⟩
theorem zw91 : Z91.WF ∧ Z91.shape = .cons (.cell (.int .i64)) (.cons (.arr 16 (.cell (.int .i64))) (.nil)) := ⟨⟨zw3.1, zw22.1, trivial⟩, rfl⟩
theorem zw95 : Z95.WF ∧ Z95.shape = .cell .other := ⟨rfl, rfl⟩
theorem zw99 : Z99.WF ∧ Z99.shape = .arr 16 (.cell (.int .u32)) := ⟨fun _ => ⟨zw43.1, rfl⟩, rfl⟩
theorem zw113 : Z113.WF ∧ Z113.shape = .cell (.int .u8) := ⟨rfl, rfl⟩
theorem zw114 : Z114.WF ∧ Z114.shape = .cell (.int .u8) := ⟨rfl, rfl⟩
theorem zw117 : Z117.WF ∧ Z117.shape = .cell (.int .i32) := ⟨rfl, rfl⟩
theorem zw118 : Z118.WF ∧ Z118.shape = .cell (.int .i32) := ⟨rfl, rfl⟩
theorem tok2 : TyOK Try.prog 2 ((env.ty 2).getD ⟨.nil, .nil, .other, 0, false⟩) := tyOK_of (by kernel_rfl) (by kernel_rfl) zw2
theorem tok3 : TyOK Try.prog 3 ((env.ty 3).getD ⟨.nil, .nil, .other, 0, false⟩) := tyOK_of (by kernel_rfl) (by kernel_rfl) zw3
theorem tok4 : TyOK Try.prog 4 ((env.ty 4).getD ⟨.nil, .nil, .other, 0, false⟩) := tyOK_of (by kernel_rfl) (by kernel_rfl) zw4
theorem tok5 : TyOK Try.prog 5 ((env.ty 5).getD ⟨.nil, .nil, .other, 0, false⟩) := tyOK_of (by kernel_rfl) (by kernel_rfl) zw5
theorem tok6 : TyOK Try.prog 6 ((env.ty 6).getD ⟨.nil, .nil, .other, 0, false⟩) := tyOK_of (by kernel_rfl) (by kernel_rfl) zw6
theorem tok7 : TyOK Try.prog 7 ((env.ty 7).getD ⟨.nil, .nil, .other, 0, false⟩) := tyOK_of (by kernel_rfl) (by kernel_rfl) zw7
theorem tok8 : TyOK Try.prog 8 ((env.ty 8).getD ⟨.nil, .nil, .other, 0, false⟩) := tyOK_of (by kernel_rfl) (by kernel_rfl) zw8
theorem tok9 : TyOK Try.prog 9 ((env.ty 9).getD ⟨.nil, .nil, .other, 0, false⟩) := tyOK_of (by kernel_rfl) (by kernel_rfl) zw9
theorem tok10 : TyOK Try.prog 10 ((env.ty 10).getD ⟨.nil, .nil, .other, 0, false⟩) := tyOK_of (by kernel_rfl) (by kernel_rfl) zw10
theorem tok11 : TyOK Try.prog 11 ((env.ty 11).getD ⟨.nil, .nil, .other, 0, false⟩) := tyOK_of (by kernel_rfl) (by kernel_rfl) zw11
theorem tok12 : TyOK Try.prog 12 ((env.ty 12).getD ⟨.nil, .nil, .other, 0, false⟩) := tyOK_of (by kernel_rfl) (by kernel_rfl) zw12
theorem tok13 : TyOK Try.prog 13 ((env.ty 13).getD ⟨.nil, .nil, .other, 0, false⟩) := tyOK_of (by kernel_rfl) (by kernel_rfl) zw13
theorem tok14 : TyOK Try.prog 14 ((env.ty 14).getD ⟨.nil, .nil, .other, 0, false⟩) := tyOK_of (by kernel_rfl) (by kernel_rfl) zw14
theorem tok21 : TyOK Try.prog 21 ((env.ty 21).getD ⟨.nil, .nil, .other, 0, false⟩) := tyOK_of (by kernel_rfl) (by kernel_rfl) zw21
theorem tok22 : TyOK Try.prog 22 ((env.ty 22).getD ⟨.nil, .nil, .other, 0, false⟩) := tyOK_of (by kernel_rfl) (by kernel_rfl) zw22
theorem tok23 : TyOK Try.prog 23 ((env.ty 23).getD ⟨.nil, .nil, .other, 0, false⟩) := tyOK_of (by kernel_rfl) (by kernel_rfl) zw23
theorem tok24 : TyOK Try.prog 24 ((env.ty 24).getD ⟨.nil, .nil, .other, 0, false⟩) := tyOK_of (by kernel_rfl) (by kernel_rfl) zw24
theorem tok31 : TyOK Try.prog 31 ((env.ty 31).getD ⟨.nil, .nil, .other, 0, false⟩) := tyOK_of (by kernel_rfl) (by kernel_rfl) zw31
theorem tok32 : TyOK Try.prog 32 ((env.ty 32).getD ⟨.nil, .nil, .other, 0, false⟩) := tyOK_of (by kernel_rfl) (by kernel_rfl) zw32
theorem tok33 : TyOK Try.prog 33 ((env.ty 33).getD ⟨.nil, .nil, .other, 0, false⟩) := tyOK_of (by kernel_rfl) (by kernel_rfl) zw33
theorem tok34 : TyOK Try.prog 34 ((env.ty 34).getD ⟨.nil, .nil, .other, 0, false⟩) := tyOK_of (by kernel_rfl) (by kernel_rfl) zw34
theorem tok36 : TyOK Try.prog 36 ((env.ty 36).getD ⟨.nil, .nil, .other, 0, false⟩) := tyOK_of (by kernel_rfl) (by kernel_rfl) zw36
theorem tok41 : TyOK Try.prog 41 ((env.ty 41).getD ⟨.nil, .nil, .other, 0, false⟩) := tyOK_of (by kernel_rfl) (by kernel_rfl) zw41
theorem tok43 : TyOK Try.prog 43 ((env.ty 43).getD ⟨.nil, .nil, .other, 0, false⟩) := tyOK_of (by kernel_rfl) (by kernel_rfl) zw43
theorem tok44 : TyOK Try.prog 44 ((env.ty 44).getD ⟨.nil, .nil, .other, 0, false⟩) := tyOK_of (by kernel_rfl) (by kernel_rfl) zw44
theorem tok45 : TyOK Try.prog 45 ((env.ty 45).getD ⟨.nil, .nil, .other, 0, false⟩) := tyOK_of (by kernel_rfl) (by kernel_rfl) zw45
theorem tok46 : TyOK Try.prog 46 ((env.ty 46).getD ⟨.nil, .nil, .other, 0, false⟩) := tyOK_of (by kernel_rfl) (by kernel_rfl) zw46
theorem tok47 : TyOK Try.prog 47 ((env.ty 47).getD ⟨.nil, .nil, .other, 0, false⟩) := tyOK_of (by kernel_rfl) (by kernel_rfl) zw47
theorem tok48 : TyOK Try.prog 48 ((env.ty 48).getD ⟨.nil, .nil, .other, 0, false⟩) := tyOK_of (by kernel_rfl) (by kernel_rfl) zw48
theorem tok56 : TyOK Try.prog 56 ((env.ty 56).getD ⟨.nil, .nil, .other, 0, false⟩) := tyOK_of (by kernel_rfl) (by kernel_rfl) zw56
theorem tok74 : TyOK Try.prog 74 ((env.ty 74).getD ⟨.nil, .nil, .other, 0, false⟩) := tyOK_of (by kernel_rfl) (by kernel_rfl) zw74
theorem tok75 : TyOK Try.prog 75 ((env.ty 75).getD ⟨.nil, .nil, .other, 0, false⟩) := tyOK_of (by kernel_rfl) (by kernel_rfl) zw75
theorem tok84 : TyOK Try.prog 84 ((env.ty 84).getD ⟨.nil, .nil, .other, 0, false⟩) := tyOK_of (by kernel_rfl) (by kernel_rfl) zw84
theorem tok85 : TyOK Try.prog 85 ((env.ty 85).getD ⟨.nil, .nil, .other, 0, false⟩) := tyOK_of (by kernel_rfl) (by kernel_rfl) zw85
theorem tok86 : TyOK Try.prog 86 ((env.ty 86).getD ⟨.nil, .nil, .other, 0, false⟩) := tyOK_of (by kernel_rfl) (by kernel_rfl) zw86
theorem tok87 : TyOK Try.prog 87 ((env.ty 87).getD ⟨.nil, .nil, .other, 0, false⟩) := tyOK_of (by kernel_rfl) (by kernel_rfl) zw87
theorem tok91 : TyOK Try.prog 91 ((env.ty 91).getD ⟨.nil, .nil, .other, 0, false⟩) := tyOK_of (by kernel_rfl) (by kernel_rfl) zw91
theorem tok95 : TyOK Try.prog 95 ((env.ty 95).getD ⟨.nil, .nil, .other, 0, false⟩) := tyOK_of (by kernel_rfl) (by kernel_rfl) zw95
theorem tok99 : TyOK Try.prog 99 ((env.ty 99).getD ⟨.nil, .nil, .other, 0, false⟩) := tyOK_of (by kernel_rfl) (by kernel_rfl) zw99
theorem tok113 : TyOK Try.prog 113 ((env.ty 113).getD ⟨.nil, .nil, .other, 0, false⟩) := tyOK_of (by kernel_rfl) (by kernel_rfl) zw113
theorem tok114 : TyOK Try.prog 114 ((env.ty 114).getD ⟨.nil, .nil, .other, 0, false⟩) := tyOK_of (by kernel_rfl) (by kernel_rfl) zw114
theorem tok117 : TyOK Try.prog 117 ((env.ty 117).getD ⟨.nil, .nil, .other, 0, false⟩) := tyOK_of (by kernel_rfl) (by kernel_rfl) zw117
theorem tok118 : TyOK Try.prog 118 ((env.ty 118).getD ⟨.nil, .nil, .other, 0, false⟩) := tyOK_of (by kernel_rfl) (by kernel_rfl) zw118
theorem ty_ok : ∀ t ty, env.ty t = some ty → TyOK Try.prog t ty := by
  intro t ty h
  have h : tyT t = some ty := h
  unfold tyT at h
  split at h
  · cases h; exact tok2
  · cases h; exact tok3
  · cases h; exact tok4
  · cases h; exact tok5
  · cases h; exact tok6
  · cases h; exact tok7
  · cases h; exact tok8
  · cases h; exact tok9
  · cases h; exact tok10
  · cases h; exact tok11
  · cases h; exact tok12
  · cases h; exact tok13
  · cases h; exact tok14
  · cases h; exact tok21
  · cases h; exact tok22
  · cases h; exact tok23
  · cases h; exact tok24
  · cases h; exact tok31
  · cases h; exact tok32
  · cases h; exact tok33
  · cases h; exact tok34
  · cases h; exact tok36
  · cases h; exact tok41
  · cases h; exact tok43
  · cases h; exact tok44
  · cases h; exact tok45
  · cases h; exact tok46
  · cases h; exact tok47
  · cases h; exact tok48
  · cases h; exact tok56
  · cases h; exact tok74
  · cases h; exact tok75
  · cases h; exact tok84
  · cases h; exact tok85
  · cases h; exact tok86
  · cases h; exact tok87
  · cases h; exact tok91
  · cases h; exact tok95
  · cases h; exact tok99
  · cases h; exact tok113
  · cases h; exact tok114
  · cases h; exact tok117
  · cases h; exact tok118
  · cases h
def revRen : Go.Shelf.Ren := ⟨fun x => if x = 112 then 82 else x, fun x => if x = 28 then 48 else x, fun x => x⟩
set_option maxRecDepth 1000000 in
theorem revLays : Go.Proofs.Lays.n112 Try.prog revRen where
  mixed := by rfl
  f112 := by rfl
  t0 := by rfl
  a0 := fun w => by rfl
  z0 := fun w => by rfl
  v0 := fun w => by rfl
  t3 := by rfl
  a3 := fun w => by rfl
  z3 := fun w => by rfl
  v3 := fun w => by rfl
  t4 := by rfl
  a4 := fun w => by rfl
  z4 := fun w => by rfl
  v4 := fun w => by rfl
  t28 := by rfl
  a28 := fun w => by rfl
  z28 := fun w => by rfl
  v28 := fun w => by rfl
set_option maxRecDepth 1000000 in
theorem rev_ok : RevOK Try.prog 82 := ⟨⟨Try.f82, by rfl, by kernel_rfl, by kernel_rfl⟩, fun blk cap zs w h1 h2 => Any.slices_Reverse_int revLays blk 0 cap zs w h1 h2, fun a cap w => Any.slices_Reverse_int_empty revLays a cap w⟩
theorem env_ok : EnvOK Try.prog env := ⟨ty_ok, fun g h => by cases h; exact rev_ok⟩
theorem fns_ok : FnsOK Try.prog env := fnsOK_of (l := okT) (fun f h => by have h : okT.contains f = true := h; simpa using h) (by kernel_rfl)
end Go.Proofs.Ythpccjgpbcginaa.Ev
