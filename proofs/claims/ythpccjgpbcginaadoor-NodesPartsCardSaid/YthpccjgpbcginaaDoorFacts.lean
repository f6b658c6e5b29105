/- The facts of this program that the evaluator wants: written by a program (gen.py) out of the translation. -/
import Derived.Test.YthpccjgpbcginaaDoorEvE
import Derived.Test.YthpccjgpbcginaaDoorEnv
import Derived.Test.YthpccjgpbcginaaDoorChecked
import Derived.KernelRfl
namespace Go.Proofs.YthpccjgpbcginaaDoor.Ev
open Go
theorem zw2 : Z2.WF ∧ Z2.shape = .cell (.int .i64) := ⟨rfl, rfl⟩
theorem zw3 : Z3.WF ∧ Z3.shape = .cell (.int .i64) := ⟨rfl, rfl⟩
theorem zw4 : Z4.WF ∧ Z4.shape = .cell .bool := ⟨rfl, rfl⟩
theorem zw5 : Z5.WF ∧ Z5.shape = .cell (.int .u8) := ⟨rfl, rfl⟩
theorem zw6 : Z6.WF ∧ Z6.shape = .cell (.int .u8) := ⟨rfl, rfl⟩
theorem zw7 : Z7.WF ∧ Z7.shape = .cons (.cell (.int .i64)) (.cons (.cell (.int .i64)) (.cons (.cell .bool) (.cons (.cell (.int .u8)) (.nil)))) := ⟨⟨zw2.1, zw3.1, zw4.1, zw6.1, trivial⟩, rfl⟩
theorem zw8 : Z8.WF ∧ Z8.shape = .cons (.cell (.int .i64)) (.cons (.cell (.int .i64)) (.cons (.cell .bool) (.cons (.cell (.int .u8)) (.nil)))) := ⟨⟨zw2.1, zw3.1, zw4.1, zw6.1, trivial⟩, rfl⟩
theorem zw9 : Z9.WF ∧ Z9.shape = .cell .string := ⟨rfl, rfl⟩
theorem zw10 : Z10.WF ∧ Z10.shape = .cell .string := ⟨rfl, rfl⟩
theorem zw11 : Z11.WF ∧ Z11.shape = .cell .string := ⟨rfl, rfl⟩
theorem zw12 : Z12.WF ∧ Z12.shape = .cell (.int .u64) := ⟨rfl, rfl⟩
theorem zw13 : Z13.WF ∧ Z13.shape = .cons (.cell .string) (.cons (.cell (.int .u64)) (.nil)) := ⟨⟨zw9.1, zw12.1, trivial⟩, rfl⟩
theorem zw14 : Z14.WF ∧ Z14.shape = .cons (.cell .string) (.cons (.cell (.int .u64)) (.nil)) := ⟨⟨zw9.1, zw12.1, trivial⟩, rfl⟩
theorem zw21 : Z21.WF ∧ Z21.shape = .cell (.int .i32) := ⟨rfl, rfl⟩
theorem zw22 : Z22.WF ∧ Z22.shape = .cell (.int .u64) := ⟨rfl, rfl⟩
theorem zw23 : Z23.WF ∧ Z23.shape = .cell .other := ⟨rfl, rfl⟩
theorem zw29 : Z29.WF ∧ Z29.shape = .cell (.int .u64) := ⟨rfl, rfl⟩
theorem zw34 : Z34.WF ∧ Z34.shape = .cell (.int .i64) := ⟨rfl, rfl⟩
theorem zw39 : Z39.WF ∧ Z39.shape = .cell (.int .u32) := ⟨rfl, rfl⟩
theorem zw41 : Z41.WF ∧ Z41.shape = .cell .other := ⟨rfl, rfl⟩
theorem zw42 : Z42.WF ∧ Z42.shape = .arr 32 (.cell (.int .u8)) := ⟨fun _ => ⟨zw5.1, rfl⟩, rfl⟩
theorem zw43 : Z43.WF ∧ Z43.shape = .arr 64 (.cell (.int .u8)) := ⟨fun _ => ⟨zw5.1, rfl⟩, rfl⟩
theorem zw51 : Z51.WF ∧ Z51.shape = .cell (.int .u8) := ⟨rfl, rfl⟩
theorem zw52 : Z52.WF ∧ Z52.shape = .cell (.int .u8) := ⟨rfl, rfl⟩
theorem zw55 : Z55.WF ∧ Z55.shape = .cell (.int .i32) := ⟨rfl, rfl⟩
theorem zw56 : Z56.WF ∧ Z56.shape = .cell (.int .i32) := ⟨rfl, rfl⟩
theorem tok2 : TyOK Tryd.prog 2 ((env.ty 2).getD ⟨.nil, .nil, .other, 0, false⟩) := tyOK_of (by kernel_rfl) (by kernel_rfl) zw2
theorem tok3 : TyOK Tryd.prog 3 ((env.ty 3).getD ⟨.nil, .nil, .other, 0, false⟩) := tyOK_of (by kernel_rfl) (by kernel_rfl) zw3
theorem tok4 : TyOK Tryd.prog 4 ((env.ty 4).getD ⟨.nil, .nil, .other, 0, false⟩) := tyOK_of (by kernel_rfl) (by kernel_rfl) zw4
theorem tok5 : TyOK Tryd.prog 5 ((env.ty 5).getD ⟨.nil, .nil, .other, 0, false⟩) := tyOK_of (by kernel_rfl) (by kernel_rfl) zw5
theorem tok6 : TyOK Tryd.prog 6 ((env.ty 6).getD ⟨.nil, .nil, .other, 0, false⟩) := tyOK_of (by kernel_rfl) (by kernel_rfl) zw6
theorem tok7 : TyOK Tryd.prog 7 ((env.ty 7).getD ⟨.nil, .nil, .other, 0, false⟩) := tyOK_of (by kernel_rfl) (by kernel_rfl) zw7
theorem tok8 : TyOK Tryd.prog 8 ((env.ty 8).getD ⟨.nil, .nil, .other, 0, false⟩) := tyOK_of (by kernel_rfl) (by kernel_rfl) zw8
theorem tok9 : TyOK Tryd.prog 9 ((env.ty 9).getD ⟨.nil, .nil, .other, 0, false⟩) := tyOK_of (by kernel_rfl) (by kernel_rfl) zw9
theorem tok10 : TyOK Tryd.prog 10 ((env.ty 10).getD ⟨.nil, .nil, .other, 0, false⟩) := tyOK_of (by kernel_rfl) (by kernel_rfl) zw10
theorem tok11 : TyOK Tryd.prog 11 ((env.ty 11).getD ⟨.nil, .nil, .other, 0, false⟩) := tyOK_of (by kernel_rfl) (by kernel_rfl) zw11
theorem tok12 : TyOK Tryd.prog 12 ((env.ty 12).getD ⟨.nil, .nil, .other, 0, false⟩) := tyOK_of (by kernel_rfl) (by kernel_rfl) zw12
theorem tok13 : TyOK Tryd.prog 13 ((env.ty 13).getD ⟨.nil, .nil, .other, 0, false⟩) := tyOK_of (by kernel_rfl) (by kernel_rfl) zw13
theorem tok14 : TyOK Tryd.prog 14 ((env.ty 14).getD ⟨.nil, .nil, .other, 0, false⟩) := tyOK_of (by kernel_rfl) (by kernel_rfl) zw14
theorem tok21 : TyOK Tryd.prog 21 ((env.ty 21).getD ⟨.nil, .nil, .other, 0, false⟩) := tyOK_of (by kernel_rfl) (by kernel_rfl) zw21
theorem tok22 : TyOK Tryd.prog 22 ((env.ty 22).getD ⟨.nil, .nil, .other, 0, false⟩) := tyOK_of (by kernel_rfl) (by kernel_rfl) zw22
theorem tok23 : TyOK Tryd.prog 23 ((env.ty 23).getD ⟨.nil, .nil, .other, 0, false⟩) := tyOK_of (by kernel_rfl) (by kernel_rfl) zw23
theorem tok29 : TyOK Tryd.prog 29 ((env.ty 29).getD ⟨.nil, .nil, .other, 0, false⟩) := tyOK_of (by kernel_rfl) (by kernel_rfl) zw29
theorem tok34 : TyOK Tryd.prog 34 ((env.ty 34).getD ⟨.nil, .nil, .other, 0, false⟩) := tyOK_of (by kernel_rfl) (by kernel_rfl) zw34
theorem tok39 : TyOK Tryd.prog 39 ((env.ty 39).getD ⟨.nil, .nil, .other, 0, false⟩) := tyOK_of (by kernel_rfl) (by kernel_rfl) zw39
theorem tok41 : TyOK Tryd.prog 41 ((env.ty 41).getD ⟨.nil, .nil, .other, 0, false⟩) := tyOK_of (by kernel_rfl) (by kernel_rfl) zw41
theorem tok42 : TyOK Tryd.prog 42 ((env.ty 42).getD ⟨.nil, .nil, .other, 0, false⟩) := tyOK_of (by kernel_rfl) (by kernel_rfl) zw42
theorem tok43 : TyOK Tryd.prog 43 ((env.ty 43).getD ⟨.nil, .nil, .other, 0, false⟩) := tyOK_of (by kernel_rfl) (by kernel_rfl) zw43
theorem tok51 : TyOK Tryd.prog 51 ((env.ty 51).getD ⟨.nil, .nil, .other, 0, false⟩) := tyOK_of (by kernel_rfl) (by kernel_rfl) zw51
theorem tok52 : TyOK Tryd.prog 52 ((env.ty 52).getD ⟨.nil, .nil, .other, 0, false⟩) := tyOK_of (by kernel_rfl) (by kernel_rfl) zw52
theorem tok55 : TyOK Tryd.prog 55 ((env.ty 55).getD ⟨.nil, .nil, .other, 0, false⟩) := tyOK_of (by kernel_rfl) (by kernel_rfl) zw55
theorem tok56 : TyOK Tryd.prog 56 ((env.ty 56).getD ⟨.nil, .nil, .other, 0, false⟩) := tyOK_of (by kernel_rfl) (by kernel_rfl) zw56
theorem ty_ok : ∀ t ty, env.ty t = some ty → TyOK Tryd.prog t ty := by
  intro t ty h
  have h : tyT t = some ty := h
  unfold tyT at h
  split at h
  · cases h; exact tok2
  · cases h; exact tok3
  · cases h; exact tok4
  · cases h; exact tok5
  · cases h; exact tok6
  · cases h; exact tok7
  · cases h; exact tok8
  · cases h; exact tok9
  · cases h; exact tok10
  · cases h; exact tok11
  · cases h; exact tok12
  · cases h; exact tok13
  · cases h; exact tok14
  · cases h; exact tok21
  · cases h; exact tok22
  · cases h; exact tok23
  · cases h; exact tok29
  · cases h; exact tok34
  · cases h; exact tok39
  · cases h; exact tok41
  · cases h; exact tok42
  · cases h; exact tok43
  · cases h; exact tok51
  · cases h; exact tok52
  · cases h; exact tok55
  · cases h; exact tok56
  · cases h
theorem env_ok : EnvOK Tryd.prog env := ⟨ty_ok, fun g h => by cases h⟩
theorem fns_ok : FnsOK Tryd.prog env := fnsOK_of (l := okT) (fun f h => by have h : okT.contains f = true := h; simpa using h) (by kernel_rfl)
end Go.Proofs.YthpccjgpbcginaaDoor.Ev
