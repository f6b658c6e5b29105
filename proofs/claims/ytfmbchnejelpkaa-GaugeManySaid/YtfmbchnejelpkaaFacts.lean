/- The facts of this program that the evaluator wants: written by a program (gen.py) out of the translation. -/
import Derived.Test.YtfmbchnejelpkaaEvE
import Derived.Test.YtfmbchnejelpkaaEnv
import Derived.Test.YtfmbchnejelpkaaChecked
import Derived.KernelRfl
namespace Go.Proofs.Ytfmbchnejelpkaa.Ev
open Go
theorem zw2 : Z2.WF ∧ Z2.shape = .cell (.int .i64) := ⟨rfl, rfl⟩
theorem zw3 : Z3.WF ∧ Z3.shape = .cell (.int .i64) := ⟨rfl, rfl⟩
theorem zw4 : Z4.WF ∧ Z4.shape = .cell .bool := ⟨rfl, rfl⟩
theorem zw5 : Z5.WF ∧ Z5.shape = .cell (.int .u8) := ⟨rfl, rfl⟩
theorem zw6 : Z6.WF ∧ Z6.shape = .cell (.int .u8) := ⟨rfl, rfl⟩
theorem zw7 : Z7.WF ∧ Z7.shape = .cons (.cell (.int .i64)) (.cons (.cell (.int .i64)) (.cons (.cell .bool) (.cons (.cell (.int .u8)) (.nil)))) := ⟨⟨zw2.1, zw3.1, zw4.1, zw6.1, trivial⟩, rfl⟩
theorem zw8 : Z8.WF ∧ Z8.shape = .cons (.cell (.int .i64)) (.cons (.cell (.int .i64)) (.cons (.cell .bool) (.cons (.cell (.int .u8)) (.nil)))) := ⟨⟨zw2.1, zw3.1, zw4.1, zw6.1, trivial⟩, rfl⟩
theorem zw9 : Z9.WF ∧ Z9.shape = .cell .string := ⟨rfl, rfl⟩
theorem zw10 : Z10.WF ∧ Z10.shape = .cell .string := ⟨rfl, rfl⟩
theorem zw11 : Z11.WF ∧ Z11.shape = .cell .string := ⟨rfl, rfl⟩
theorem zw12 : Z12.WF ∧ Z12.shape = .cell (.int .u64) := ⟨rfl, rfl⟩
theorem zw13 : Z13.WF ∧ Z13.shape = .cons (.cell .string) (.cons (.cell (.int .u64)) (.nil)) := ⟨⟨zw9.1, zw12.1, trivial⟩, rfl⟩
theorem zw14 : Z14.WF ∧ Z14.shape = .cons (.cell .string) (.cons (.cell (.int .u64)) (.nil)) := ⟨⟨zw9.1, zw12.1, trivial⟩, rfl⟩
theorem zw21 : Z21.WF ∧ Z21.shape = .cell (.int .i32) := ⟨rfl, rfl⟩
theorem zw22 : Z22.WF ∧ Z22.shape = .cell (.float .f64) := ⟨rfl, rfl⟩
theorem zw27 : Z27.WF ∧ Z27.shape = .cell (.int .u32) := ⟨rfl, rfl⟩
theorem zw31 : Z31.WF ∧ Z31.shape = .cell (.int .u16) := ⟨rfl, rfl⟩
theorem zw32 : Z32.WF ∧ Z32.shape = .cell (.int .u64) := ⟨rfl, rfl⟩
theorem zw33 : Z33.WF ∧ Z33.shape = .cell (.int .i64) := ⟨rfl, rfl⟩
theorem zw37 : Z37.WF ∧ Z37.shape = .cell .other := ⟨rfl, rfl⟩
theorem zw41 : Z41.WF ∧ Z41.shape = .cell .other := ⟨rfl, rfl⟩
theorem zw56 : Z56.WF ∧ Z56.shape = .cell (.int .u64) := ⟨rfl, rfl⟩
theorem zw64 : Z64.WF ∧ Z64.shape = .cell (.int .u8) := ⟨rfl, rfl⟩
theorem zw65 : Z65.WF ∧ Z65.shape = .cell (.int .u8) := ⟨rfl, rfl⟩
theorem zw68 : Z68.WF ∧ Z68.shape = .cell (.int .i32) := ⟨rfl, rfl⟩
theorem zw69 : Z69.WF ∧ Z69.shape = .cell (.int .i32) := ⟨rfl, rfl⟩
theorem tok2 : TyOK Try.prog 2 ((env.ty 2).getD ⟨.nil, .nil, .other, 0, false⟩) := tyOK_of (by kernel_rfl) (by kernel_rfl) zw2
theorem tok3 : TyOK Try.prog 3 ((env.ty 3).getD ⟨.nil, .nil, .other, 0, false⟩) := tyOK_of (by kernel_rfl) (by kernel_rfl) zw3
theorem tok4 : TyOK Try.prog 4 ((env.ty 4).getD ⟨.nil, .nil, .other, 0, false⟩) := tyOK_of (by kernel_rfl) (by kernel_rfl) zw4
theorem tok5 : TyOK Try.prog 5 ((env.ty 5).getD ⟨.nil, .nil, .other, 0, false⟩) := tyOK_of (by kernel_rfl) (by kernel_rfl) zw5
theorem tok6 : TyOK Try.prog 6 ((env.ty 6).getD ⟨.nil, .nil, .other, 0, false⟩) := tyOK_of (by kernel_rfl) (by kernel_rfl) zw6
theorem tok7 : TyOK Try.prog 7 ((env.ty 7).getD ⟨.nil, .nil, .other, 0, false⟩) := tyOK_of (by kernel_rfl) (by kernel_rfl) zw7
theorem tok8 : TyOK Try.prog 8 ((env.ty 8).getD ⟨.nil, .nil, .other, 0, false⟩) := tyOK_of (by kernel_rfl) (by kernel_rfl) zw8
theorem tok9 : TyOK Try.prog 9 ((env.ty 9).getD ⟨.nil, .nil, .other, 0, false⟩) := tyOK_of (by kernel_rfl) (by kernel_rfl) zw9
theorem tok10 : TyOK Try.prog 10 ((env.ty 10).getD ⟨.nil, .nil, .other, 0, false⟩) := tyOK_of (by kernel_rfl) (by kernel_rfl) zw10
theorem tok11 : TyOK Try.prog 11 ((env.ty 11).getD ⟨.nil, .nil, .other, 0, false⟩) := tyOK_of (by kernel_rfl) (by kernel_rfl) zw11
theorem tok12 : TyOK Try.prog 12 ((env.ty 12).getD ⟨.nil, .nil, .other, 0, false⟩) := tyOK_of (by kernel_rfl) (by kernel_rfl) zw12
theorem tok13 : TyOK Try.prog 13 ((env.ty 13).getD ⟨.nil, .nil, .other, 0, false⟩) := tyOK_of (by kernel_rfl) (by kernel_rfl) zw13
theorem tok14 : TyOK Try.prog 14 ((env.ty 14).getD ⟨.nil, .nil, .other, 0, false⟩) := tyOK_of (by kernel_rfl) (by kernel_rfl) zw14
theorem tok21 : TyOK Try.prog 21 ((env.ty 21).getD ⟨.nil, .nil, .other, 0, false⟩) := tyOK_of (by kernel_rfl) (by kernel_rfl) zw21
theorem tok22 : TyOK Try.prog 22 ((env.ty 22).getD ⟨.nil, .nil, .other, 0, false⟩) := tyOK_of (by kernel_rfl) (by kernel_rfl) zw22
theorem tok27 : TyOK Try.prog 27 ((env.ty 27).getD ⟨.nil, .nil, .other, 0, false⟩) := tyOK_of (by kernel_rfl) (by kernel_rfl) zw27
theorem tok31 : TyOK Try.prog 31 ((env.ty 31).getD ⟨.nil, .nil, .other, 0, false⟩) := tyOK_of (by kernel_rfl) (by kernel_rfl) zw31
theorem tok32 : TyOK Try.prog 32 ((env.ty 32).getD ⟨.nil, .nil, .other, 0, false⟩) := tyOK_of (by kernel_rfl) (by kernel_rfl) zw32
theorem tok33 : TyOK Try.prog 33 ((env.ty 33).getD ⟨.nil, .nil, .other, 0, false⟩) := tyOK_of (by kernel_rfl) (by kernel_rfl) zw33
theorem tok37 : TyOK Try.prog 37 ((env.ty 37).getD ⟨.nil, .nil, .other, 0, false⟩) := tyOK_of (by kernel_rfl) (by kernel_rfl) zw37
theorem tok41 : TyOK Try.prog 41 ((env.ty 41).getD ⟨.nil, .nil, .other, 0, false⟩) := tyOK_of (by kernel_rfl) (by kernel_rfl) zw41
theorem tok56 : TyOK Try.prog 56 ((env.ty 56).getD ⟨.nil, .nil, .other, 0, false⟩) := tyOK_of (by kernel_rfl) (by kernel_rfl) zw56
theorem tok64 : TyOK Try.prog 64 ((env.ty 64).getD ⟨.nil, .nil, .other, 0, false⟩) := tyOK_of (by kernel_rfl) (by kernel_rfl) zw64
theorem tok65 : TyOK Try.prog 65 ((env.ty 65).getD ⟨.nil, .nil, .other, 0, false⟩) := tyOK_of (by kernel_rfl) (by kernel_rfl) zw65
theorem tok68 : TyOK Try.prog 68 ((env.ty 68).getD ⟨.nil, .nil, .other, 0, false⟩) := tyOK_of (by kernel_rfl) (by kernel_rfl) zw68
theorem tok69 : TyOK Try.prog 69 ((env.ty 69).getD ⟨.nil, .nil, .other, 0, false⟩) := tyOK_of (by kernel_rfl) (by kernel_rfl) zw69
theorem ty_ok : ∀ t ty, env.ty t = some ty → TyOK Try.prog t ty := by
  intro t ty h
  have h : tyT t = some ty := h
  unfold tyT at h
  split at h
  · cases h; exact tok2
  · cases h; exact tok3
  · cases h; exact tok4
  · cases h; exact tok5
  · cases h; exact tok6
  · cases h; exact tok7
  · cases h; exact tok8
  · cases h; exact tok9
  · cases h; exact tok10
  · cases h; exact tok11
  · cases h; exact tok12
  · cases h; exact tok13
  · cases h; exact tok14
  · cases h; exact tok21
  · cases h; exact tok22
  · cases h; exact tok27
  · cases h; exact tok31
  · cases h; exact tok32
  · cases h; exact tok33
  · cases h; exact tok37
  · cases h; exact tok41
  · cases h; exact tok56
  · cases h; exact tok64
  · cases h; exact tok65
  · cases h; exact tok68
  · cases h; exact tok69
  · cases h
theorem env_ok : EnvOK Try.prog env := ⟨ty_ok, fun g h => by cases h⟩
theorem fns_ok : FnsOK Try.prog env := fnsOK_of (l := okT) (fun f h => by have h : okT.contains f = true := h; simpa using h) (by kernel_rfl)
end Go.Proofs.Ytfmbchnejelpkaa.Ev
