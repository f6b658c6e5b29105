/- The facts of this program that the evaluator wants: written by a program (gen.py) out of the translation. -/
import Derived.Test.YtfbaikkadndckaaEvE
import Derived.Test.YtfbaikkadndckaaEnv
import Derived.Test.YtfbaikkadndckaaChecked
import Derived.KernelRfl
namespace Go.Proofs.Ytfbaikkadndckaa.Ev
open Go
theorem zw2 : Z2.WF ∧ Z2.shape = .cell (.int .i64) := ⟨rfl, rfl⟩
theorem zw3 : Z3.WF ∧ Z3.shape = .cell (.int .i64) := ⟨rfl, rfl⟩
theorem zw4 : Z4.WF ∧ Z4.shape = .cell .bool := ⟨rfl, rfl⟩
theorem zw5 : Z5.WF ∧ Z5.shape = .cell (.int .u8) := ⟨rfl, rfl⟩
theorem zw6 : Z6.WF ∧ Z6.shape = .cell (.int .u8) := ⟨rfl, rfl⟩
theorem zw7 : Z7.WF ∧ Z7.shape = .cons (.cell (.int .i64)) (.cons (.cell (.int .i64)) (.cons (.cell .bool) (.cons (.cell (.int .u8)) (.nil)))) := ⟨⟨zw2.1, zw3.1, zw4.1, zw6.1, trivial⟩, rfl⟩
theorem zw8 : Z8.WF ∧ Z8.shape = .cons (.cell (.int .i64)) (.cons (.cell (.int .i64)) (.cons (.cell .bool) (.cons (.cell (.int .u8)) (.nil)))) := ⟨⟨zw2.1, zw3.1, zw4.1, zw6.1, trivial⟩, rfl⟩
theorem zw9 : Z9.WF ∧ Z9.shape = .cell .string := ⟨rfl, rfl⟩
theorem zw10 : Z10.WF ∧ Z10.shape = .cell .string := ⟨rfl, rfl⟩
theorem zw11 : Z11.WF ∧ Z11.shape = .cell .string := ⟨rfl, rfl⟩
theorem zw12 : Z12.WF ∧ Z12.shape = .cell (.int .u64) := ⟨rfl, rfl⟩
theorem zw13 : Z13.WF ∧ Z13.shape = .cons (.cell .string) (.cons (.cell (.int .u64)) (.nil)) := ⟨⟨zw9.1, zw12.1, trivial⟩, rfl⟩
theorem zw14 : Z14.WF ∧ Z14.shape = .cons (.cell .string) (.cons (.cell (.int .u64)) (.nil)) := ⟨⟨zw9.1, zw12.1, trivial⟩, rfl⟩
theorem zw21 : Z21.WF ∧ Z21.shape = .cell (.int .i32) := ⟨rfl, rfl⟩
theorem zw22 : Z22.WF ∧ Z22.shape = .cell (.int .u32) := ⟨rfl, rfl⟩
theorem zw23 : Z23.WF ∧ Z23.shape = .arr 16 (.cell (.int .u32)) := ⟨fun _ => ⟨zw22.1, rfl⟩, rfl⟩
theorem zw24 : Z24.WF ∧ Z24.shape = .cons (.cell (.int .i64)) (.cons (.arr 16 (.cell (.int .u32))) (.nil)) := ⟨⟨zw3.1, zw23.1, trivial⟩, rfl⟩
theorem zw25 : Z25.WF ∧ Z25.shape = .cons (.cell (.int .i64)) (.cons (.arr 16 (.cell (.int .u32))) (.nil)) := ⟨⟨zw3.1, zw23.1, trivial⟩, rfl⟩
theorem zw26 : Z26.WF ∧ Z26.shape = .cons (.cell (.int .u32)) (.cons (.cell (.int .i64)) (.nil)) := ⟨⟨zw22.1, zw3.1, trivial⟩, rfl⟩
theorem zw27 : Z27.WF ∧ Z27.shape = .cons (.cell (.int .u32)) (.cons (.cell (.int .i64)) (.nil)) := ⟨⟨zw22.1, zw3.1, trivial⟩, rfl⟩
theorem zw28 : Z28.WF ∧ Z28.shape = .arr 16 (.cons (.cell (.int .u32)) (.cons (.cell (.int .i64)) (.nil))) := ⟨fun _ => ⟨zw27.1, rfl⟩, rfl⟩
theorem zw29 : Z29.WF ∧ Z29.shape = .arr 16 (.cons (.cell (.int .u32)) (.cons (.cell (.int .i64)) (.nil))) := ⟨fun _ => ⟨zw27.1, rfl⟩, rfl⟩
theorem zw30 : Z30.WF ∧ Z30.shape = .arr 16 (.arr 16 (.cons (.cell (.int .u32)) (.cons (.cell (.int .i64)) (.nil)))) := ⟨fun _ => ⟨zw29.1, rfl⟩, rfl⟩
theorem zw31 : Z31.WF ∧ Z31.shape = .cons (.cell (.int .i64)) (.cons (.cons (.cell (.int .i64)) (.cons (.arr 16 (.cell (.int .u32))) (.nil))) (.cons (.arr 16 (.arr 16 (.cons (.cell (.int .u32)) (.cons (.cell (.int .i64)) (.nil))))) (.nil))) := ⟨⟨zw3.1, zw25.1, zw30.1, trivial⟩, rfl⟩
theorem zw32 : Z32.WF ∧ Z32.shape = .cons (.cell (.int .i64)) (.cons (.cons (.cell (.int .i64)) (.cons (.arr 16 (.cell (.int .u32))) (.nil))) (.cons (.arr 16 (.arr 16 (.cons (.cell (.int .u32)) (.cons (.cell (.int .i64)) (.nil))))) (.nil))) := ⟨⟨zw3.1, zw25.1, zw30.1, trivial⟩, rfl⟩
theorem zw33 : Z33.WF ∧ Z33.shape = .cell (.int .u64) := ⟨rfl, rfl⟩
theorem zw34 : Z34.WF ∧ Z34.shape = .cons (.cell (.int .u32)) (.cons (.cell (.int .i64)) (.cons (.cell (.int .i64)) (.nil))) := ⟨⟨zw22.1, zw3.1, zw3.1, trivial⟩, rfl⟩
theorem zw35 : Z35.WF ∧ Z35.shape = .cons (.cell (.int .u32)) (.cons (.cell (.int .i64)) (.cons (.cell (.int .i64)) (.nil))) := ⟨⟨zw22.1, zw3.1, zw3.1, trivial⟩, rfl⟩
theorem zw36 : Z36.WF ∧ Z36.shape = .arr 16 (.cons (.cell (.int .u32)) (.cons (.cell (.int .i64)) (.cons (.cell (.int .i64)) (.nil)))) := ⟨fun _ => ⟨zw35.1, rfl⟩, rfl⟩
theorem zw37 : Z37.WF ∧ Z37.shape = .arr 16 (.cons (.cell (.int .u32)) (.cons (.cell (.int .i64)) (.cons (.cell (.int .i64)) (.nil)))) := ⟨fun _ => ⟨zw35.1, rfl⟩, rfl⟩
theorem zw39 : Z39.WF ∧ Z39.shape = .cell .other := ⟨rfl, rfl⟩
theorem zw46 : Z46.WF ∧ Z46.shape = .cons (.arr 16 (.cons (.cell (.int .u32)) (.cons (.cell (.int .i64)) (.cons (.cell (.int .i64)) (.nil))))) (.cons (.cell (.int .i64)) (.cons (.cell (.int .i64)) (.cons (.cell (.int .i64)) (.nil)))) := ⟨⟨zw37.1, zw3.1, zw3.1, zw3.1, trivial⟩, rfl⟩
theorem zw47 : Z47.WF ∧ Z47.shape = .cons (.arr 16 (.cons (.cell (.int .u32)) (.cons (.cell (.int .i64)) (.cons (.cell (.int .i64)) (.nil))))) (.cons (.cell (.int .i64)) (.cons (.cell (.int .i64)) (.cons (.cell (.int .i64)) (.nil)))) := ⟨⟨zw37.1, zw3.1, zw3.1, zw3.1, trivial⟩, rfl⟩
theorem zw64 : Z64.WF ∧ Z64.shape = .cell .other := ⟨rfl, rfl⟩
theorem zw67 : Z67.WF ∧ Z67.shape = .cons (.cell (.int .i64)) (.cons (.cell (.int .i64)) (.cons (.cell (.int .u32)) (.cons (.cell (.int .i64)) (.nil)))) := ⟨⟨zw3.1, zw3.1, zw22.1, zw3.1, trivial⟩, rfl⟩
theorem zw68 : Z68.WF ∧ Z68.shape = .cons (.cell (.int .i64)) (.cons (.cell (.int .i64)) (.cons (.cell (.int .u32)) (.cons (.cell (.int .i64)) (.nil)))) := ⟨⟨zw3.1, zw3.1, zw22.1, zw3.1, trivial⟩, rfl⟩
theorem zw73 : Z73.WF ∧ Z73.shape = .arr 3 (.cell (.int .i64)) := ⟨fun _ => ⟨zw3.1, rfl⟩, rfl⟩
theorem zw78 : Z78.WF ∧ Z78.shape = .cell .other := ⟨rfl, rfl⟩
theorem zw80 : Z80.WF ∧ Z80.shape = .cons (.cell (.int .i64)) (.cons (.cell (.int .u32)) (.nil)) := ⟨⟨zw3.1, zw22.1, trivial⟩, rfl⟩
theorem zw81 : Z81.WF ∧ Z81.shape = .cons (.cell (.int .i64)) (.cons (.cell (.int .u32)) (.nil)) := ⟨⟨zw3.1, zw22.1, trivial⟩, rfl⟩
theorem zw86 : Z86.WF ∧ Z86.shape = .cell .other := ⟨rfl, rfl⟩
theorem zw87 : Z87.WF ∧ Z87.shape = .arr 16 (.cell (.int .i64)) := ⟨fun _ => ⟨zw3.1, rfl⟩, rfl⟩
theorem zw88 : Z88.WF ∧ Z88.shape = .cons (.cell (.int .u32)) (.cons (.cell (.int .u32)) (.nil)) := ⟨⟨zw22.1, zw22.1, trivial⟩, rfl⟩
theorem zw89 : Z89.WF ∧ Z89.shape = .cons (.cell (.int .u32)) (.cons (.cell (.int .u32)) (.nil)) := ⟨⟨zw22.1, zw22.1, trivial⟩, rfl⟩
theorem zw90 : Z90.WF ∧ Z90.shape = .cons (.cons (.cell (.int .u32)) (.cons (.cell (.int .u32)) (.nil))) (.cons (.cons (.cell (.int .u32)) (.cons (.cell (.int .u32)) (.nil))) (.nil)) := ⟨⟨zw89.1, zw89.1, trivial⟩, rfl⟩
theorem zw91 : Z91.WF ∧ Z91.shape = .cons (.cons (.cell (.int .u32)) (.cons (.cell (.int .u32)) (.nil))) (.cons (.cons (.cell (.int .u32)) (.cons (.cell (.int .u32)) (.nil))) (.nil)) := ⟨⟨zw89.1, zw89.1, trivial⟩, rfl⟩
theorem zw92 : Z92.WF ∧ Z92.shape = .arr 16 (.cons (.cons (.cell (.int .u32)) (.cons (.cell (.int .u32)) (.nil))) (.cons (.cons (.cell (.int .u32)) (.cons (.cell (.int .u32)) (.nil))) (.nil))) := ⟨fun _ => ⟨zw91.1, rfl⟩, rfl⟩
theorem zw93 : Z93.WF ∧ Z93.shape = .cons (.cell (.int .i64)) (.cons (.arr 16 (.cell (.int .i64))) (.cons (.arr 16 (.cons (.cons (.cell (.int .u32)) (.cons (.cell (.int .u32)) (.nil))) (.cons (.cons (.cell (.int .u32)) (.cons (.cell (.int .u32)) (.nil))) (.nil)))) (.nil))) := ⟨⟨zw3.1, zw87.1, zw92.1, trivial⟩, rfl⟩
theorem zw94 : Z94.WF ∧ Z94.shape = .cons (.cell (.int .i64)) (.cons (.arr 16 (.cell (.int .i64))) (.cons (.arr 16 (.cons (.cons (.cell (.int .u32)) (.cons (.cell (.int .u32)) (.nil))) (.cons (.cons (.cell (.int .u32)) (.cons (.cell (.int .u32)) (.nil))) (.nil)))) (.nil))) := ⟨⟨zw3.1, zw87.1, zw92.1, trivial⟩, rfl⟩
theorem zw95 : Z95.WF ∧ Z95.shape = .cons (.arr 16 (.cell (.int .i64))) (.cons (.cons (.cell (.int .i64)) (.cons (.arr 16 (.cell (.int .i64))) (.cons (.arr 16 (.cons (.cons (.cell (.int .u32)) (.cons (.cell (.int .u32)) (.nil))) (.cons (.cons (.cell (.int .u32)) (.cons (.cell (.int .u32)) (.nil))) (.nil)))) (.nil)))) (.nil)) := ⟨⟨zw87.1, zw94.1, trivial⟩, rfl⟩
theorem zw96 : Z96.WF ∧ Z96.shape = .cons (.arr 16 (.cell (.int .i64))) (.cons (.cons (.cell (.int .i64)) (.cons (.arr 16 (.cell (.int .i64))) (.cons (.arr 16 (.cons (.cons (.cell (.int .u32)) (.cons (.cell (.int .u32)) (.nil))) (.cons (.cons (.cell (.int .u32)) (.cons (.cell (.int .u32)) (.nil))) (.nil)))) (.nil)))) (.nil)) := ⟨⟨zw87.1, zw94.1, trivial⟩, rfl⟩
theorem zw98 : Z98.WF ∧ Z98.shape = .cons (.cell (.int .i64)) (.cons (.arr 16 (.cell (.int .i64))) (.nil)) := ⟨⟨zw3.1, zw87.1, trivial⟩, rfl⟩
theorem zw99 : Z99.WF ∧ Z99.shape = .cons (.cell (.int .i64)) (.cons (.arr 16 (.cell (.int .i64))) (.nil)) := ⟨⟨zw3.1, zw87.1, trivial⟩, rfl⟩
theorem zw100 : Z100.WF ∧ Z100.shape = .cons (.cons (.cell (.int .i64)) (.cons (.cons (.cell (.int .i64)) (.cons (.arr 16 (.cell (.int .u32))) (.nil))) (.cons (.arr 16 (.arr 16 (.cons (.cell (.int .u32)) (.cons (.cell (.int .i64)) (.nil))))) (.nil)))) (.cons (.arr 16 (.cons (.cell (.int .u32)) (.cons (.cell (.int .i64)) (.cons (.cell (.int .i64)) (.nil))))) (.cons (.arr 16 (.cell (.int .u32))) (.cons (.cons (.cell (.int .i64)) (.cons (.arr 16 (.cell (.int .i64))) (.nil))) (.cons (.arr 16 (.cell (.int .i64))) (.cons (.arr 16 (.cell (.int .i64))) (.cons (.arr 16 (.cell (.int .i64))) (.nil))))))) := ⟨⟨zw32.1, zw37.1, zw23.1, zw99.1, zw87.1, zw87.1, zw87.1, trivial⟩, rfl⟩
theorem zw101 : Z101.WF ∧ Z101.shape = .cons (.cons (.cell (.int .i64)) (.cons (.cons (.cell (.int .i64)) (.cons (.arr 16 (.cell (.int .u32))) (.nil))) (.cons (.arr 16 (.arr 16 (.cons (.cell (.int .u32)) (.cons (.cell (.int .i64)) (.nil))))) (.nil)))) (.cons (.arr 16 (.cons (.cell (.int .u32)) (.cons (.cell (.int .i64)) (.cons (.cell (.int .i64)) (.nil))))) (.cons (.arr 16 (.cell (.int .u32))) (.cons (.cons (.cell (.int .i64)) (.cons (.arr 16 (.cell (.int .i64))) (.nil))) (.cons (.arr 16 (.cell (.int .i64))) (.cons (.arr 16 (.cell (.int .i64))) (.cons (.arr 16 (.cell (.int .i64))) (.nil))))))) := ⟨⟨zw32.1, zw37.1, zw23.1, zw99.1, zw87.1, zw87.1, zw87.1, trivial⟩, rfl⟩
theorem zw103 : Z103.WF ∧ Z103.shape = .cons (.cell (.int .i64)) (.cons (.cell (.int .i64)) (.cons (.cell (.int .u32)) (.cons (.cell .other) (.nil)))) := ⟨⟨zw3.1, zw3.1, zw22.1, zw64.1, trivial⟩, rfl⟩
theorem zw104 : Z104.WF ∧ Z104.shape = .cons (.cell (.int .i64)) (.cons (.cell (.int .i64)) (.cons (.cell (.int .u32)) (.cons (.cell .other) (.nil)))) := ⟨⟨zw3.1, zw3.1, zw22.1, zw64.1, trivial⟩, rfl⟩
theorem zw105 : Z105.WF ∧ Z105.shape = .cell (.int .i64) := ⟨rfl, rfl⟩
theorem zw109 : Z109.WF ∧ Z109.shape = .cell .other := ⟨rfl, rfl⟩
theorem zw110 : Z110.WF ∧ Z110.shape = .cell .other := ⟨rfl, rfl⟩
theorem zw111 : Z111.WF ∧ Z111.shape = .cons (.cell (.int .i64)) (.cons (.cell .other) (.nil)) := ⟨⟨zw3.1, zw110.1, trivial⟩, rfl⟩
theorem zw112 : Z112.WF ∧ Z112.shape = .cons (.cell (.int .i64)) (.cons (.cell .other) (.nil)) := ⟨⟨zw3.1, zw110.1, trivial⟩, rfl⟩
theorem zw113 : Z113.WF ∧ Z113.shape = .cons (.cell (.int .i64)) (.cons (.cell .other) (.cons (.cons (.cell (.int .i64)) (.cons (.cell .other) (.nil))) (.cons (.cell .other) (.nil)))) := ⟨⟨zw3.1, zw109.1, zw112.1, zw64.1, trivial⟩, rfl⟩
theorem zw114 : Z114.WF ∧ Z114.shape = .cons (.cell (.int .i64)) (.cons (.cell .other) (.cons (.cons (.cell (.int .i64)) (.cons (.cell .other) (.nil))) (.cons (.cell .other) (.nil)))) := ⟨⟨zw3.1, zw109.1, zw112.1, zw64.1, trivial⟩, rfl⟩
theorem zw115 : Z115.WF ∧ Z115.shape = .cons (.cell (.int .i64)) (.cons (.cons (.cell (.int .u32)) (.cons (.cell (.int .u32)) (.nil))) (.cons (.cons (.cell (.int .u32)) (.cons (.cell (.int .u32)) (.nil))) (.cons (.cell (.int .i64)) (.cons (.cell (.int .i64)) (.cons (.cons (.cell (.int .i64)) (.cons (.cell .other) (.cons (.cons (.cell (.int .i64)) (.cons (.cell .other) (.nil))) (.cons (.cell .other) (.nil))))) (.nil)))))) := ⟨⟨zw3.1, zw89.1, zw89.1, zw3.1, zw3.1, zw114.1, trivial⟩, rfl⟩
theorem zw116 : Z116.WF ∧ Z116.shape = .cons (.cell (.int .i64)) (.cons (.cons (.cell (.int .u32)) (.cons (.cell (.int .u32)) (.nil))) (.cons (.cons (.cell (.int .u32)) (.cons (.cell (.int .u32)) (.nil))) (.cons (.cell (.int .i64)) (.cons (.cell (.int .i64)) (.cons (.cons (.cell (.int .i64)) (.cons (.cell .other) (.cons (.cons (.cell (.int .i64)) (.cons (.cell .other) (.nil))) (.cons (.cell .other) (.nil))))) (.nil)))))) := ⟨⟨zw3.1, zw89.1, zw89.1, zw3.1, zw3.1, zw114.1, trivial⟩, rfl⟩
theorem zw117 : Z117.WF ∧ Z117.shape = .arr 16 (.cons (.cell (.int .i64)) (.cons (.cons (.cell (.int .u32)) (.cons (.cell (.int .u32)) (.nil))) (.cons (.cons (.cell (.int .u32)) (.cons (.cell (.int .u32)) (.nil))) (.cons (.cell (.int .i64)) (.cons (.cell (.int .i64)) (.cons (.cons (.cell (.int .i64)) (.cons (.cell .other) (.cons (.cons (.cell (.int .i64)) (.cons (.cell .other) (.nil))) (.cons (.cell .other) (.nil))))) (.nil))))))) := ⟨fun _ => ⟨zw116.1, rfl⟩, rfl⟩
theorem zw122 : Z122.WF ∧ Z122.shape = .cell .other := ⟨rfl, rfl⟩
theorem zw126 : Z126.WF ∧ Z126.shape = .arr 2 (.cell (.int .i64)) := ⟨fun _ => ⟨zw3.1, rfl⟩, rfl⟩
theorem zw148 : Z148.WF ∧ Z148.shape = .cell (.int .u64) := ⟨rfl, rfl⟩
theorem zw185 : Z185.WF ∧ Z185.shape = .cell (.int .i64) := ⟨rfl, rfl⟩
theorem zw192 : Z192.WF ∧ Z192.shape = .cell .other := ⟨rfl, rfl⟩
theorem zw199 : Z199.WF ∧ Z199.shape = .cell (.int .u64) := ⟨rfl, rfl⟩
theorem zw215 : Z215.WF ∧ Z215.shape = .cell (.int .u8) := ⟨rfl, rfl⟩
theorem zw216 : Z216.WF ∧ Z216.shape = .cell (.int .u8) := ⟨rfl, rfl⟩
theorem zw219 : Z219.WF ∧ Z219.shape = .cell (.int .i32) := ⟨rfl, rfl⟩
theorem zw220 : Z220.WF ∧ Z220.shape = .cell (.int .i32) := ⟨rfl, rfl⟩
theorem zw223 : Z223.WF ∧ Z223.shape = .cons (.cell (.int .i64)) (.cons (.cell .string) (.cons (.cell (.int .i64)) (.cons (.cell (.int .i64)) (.nil)))) := ⟨⟨zw3.1, zw9.1, zw3.1, zw3.1, trivial⟩, rfl⟩
theorem zw224 : Z224.WF ∧ Z224.shape = .cons (.cell (.int .i64)) (.cons (.cell .string) (.cons (.cell (.int .i64)) (.cons (.cell (.int .i64)) (.nil)))) := ⟨⟨zw3.1, zw9.1, zw3.1, zw3.1, trivial⟩, rfl⟩
theorem zw225 : Z225.WF ∧ Z225.shape = .cons (.cell (.int .i64)) (.cons (.cons (.cons (.cell (.int .u32)) (.cons (.cell (.int .u32)) (.nil))) (.cons (.cons (.cell (.int .u32)) (.cons (.cell (.int .u32)) (.nil))) (.nil))) (.cons (.cell (.int .i64)) (.cons (.cell .bool) (.cons (.cell .other) (.nil))))) := ⟨⟨zw3.1, zw91.1, zw3.1, zw4.1, zw64.1, trivial⟩, rfl⟩
theorem zw226 : Z226.WF ∧ Z226.shape = .cons (.cell (.int .i64)) (.cons (.cons (.cons (.cell (.int .u32)) (.cons (.cell (.int .u32)) (.nil))) (.cons (.cons (.cell (.int .u32)) (.cons (.cell (.int .u32)) (.nil))) (.nil))) (.cons (.cell (.int .i64)) (.cons (.cell .bool) (.cons (.cell .other) (.nil))))) := ⟨⟨zw3.1, zw91.1, zw3.1, zw4.1, zw64.1, trivial⟩, rfl⟩
theorem tok2 : TyOK Try.prog 2 ((env.ty 2).getD ⟨.nil, .nil, .other, 0, false⟩) := tyOK_of (by kernel_rfl) (by kernel_rfl) zw2
theorem tok3 : TyOK Try.prog 3 ((env.ty 3).getD ⟨.nil, .nil, .other, 0, false⟩) := tyOK_of (by kernel_rfl) (by kernel_rfl) zw3
theorem tok4 : TyOK Try.prog 4 ((env.ty 4).getD ⟨.nil, .nil, .other, 0, false⟩) := tyOK_of (by kernel_rfl) (by kernel_rfl) zw4
theorem tok5 : TyOK Try.prog 5 ((env.ty 5).getD ⟨.nil, .nil, .other, 0, false⟩) := tyOK_of (by kernel_rfl) (by kernel_rfl) zw5
theorem tok6 : TyOK Try.prog 6 ((env.ty 6).getD ⟨.nil, .nil, .other, 0, false⟩) := tyOK_of (by kernel_rfl) (by kernel_rfl) zw6
theorem tok7 : TyOK Try.prog 7 ((env.ty 7).getD ⟨.nil, .nil, .other, 0, false⟩) := tyOK_of (by kernel_rfl) (by kernel_rfl) zw7
theorem tok8 : TyOK Try.prog 8 ((env.ty 8).getD ⟨.nil, .nil, .other, 0, false⟩) := tyOK_of (by kernel_rfl) (by kernel_rfl) zw8
theorem tok9 : TyOK Try.prog 9 ((env.ty 9).getD ⟨.nil, .nil, .other, 0, false⟩) := tyOK_of (by kernel_rfl) (by kernel_rfl) zw9
theorem tok10 : TyOK Try.prog 10 ((env.ty 10).getD ⟨.nil, .nil, .other, 0, false⟩) := tyOK_of (by kernel_rfl) (by kernel_rfl) zw10
theorem tok11 : TyOK Try.prog 11 ((env.ty 11).getD ⟨.nil, .nil, .other, 0, false⟩) := tyOK_of (by kernel_rfl) (by kernel_rfl) zw11
theorem tok12 : TyOK Try.prog 12 ((env.ty 12).getD ⟨.nil, .nil, .other, 0, false⟩) := tyOK_of (by kernel_rfl) (by kernel_rfl) zw12
theorem tok13 : TyOK Try.prog 13 ((env.ty 13).getD ⟨.nil, .nil, .other, 0, false⟩) := tyOK_of (by kernel_rfl) (by kernel_rfl) zw13
theorem tok14 : TyOK Try.prog 14 ((env.ty 14).getD ⟨.nil, .nil, .other, 0, false⟩) := tyOK_of (by kernel_rfl) (by kernel_rfl) zw14
theorem tok21 : TyOK Try.prog 21 ((env.ty 21).getD ⟨.nil, .nil, .other, 0, false⟩) := tyOK_of (by kernel_rfl) (by kernel_rfl) zw21
theorem tok22 : TyOK Try.prog 22 ((env.ty 22).getD ⟨.nil, .nil, .other, 0, false⟩) := tyOK_of (by kernel_rfl) (by kernel_rfl) zw22
theorem tok23 : TyOK Try.prog 23 ((env.ty 23).getD ⟨.nil, .nil, .other, 0, false⟩) := tyOK_of (by kernel_rfl) (by kernel_rfl) zw23
theorem tok24 : TyOK Try.prog 24 ((env.ty 24).getD ⟨.nil, .nil, .other, 0, false⟩) := tyOK_of (by kernel_rfl) (by kernel_rfl) zw24
theorem tok25 : TyOK Try.prog 25 ((env.ty 25).getD ⟨.nil, .nil, .other, 0, false⟩) := tyOK_of (by kernel_rfl) (by kernel_rfl) zw25
theorem tok26 : TyOK Try.prog 26 ((env.ty 26).getD ⟨.nil, .nil, .other, 0, false⟩) := tyOK_of (by kernel_rfl) (by kernel_rfl) zw26
theorem tok27 : TyOK Try.prog 27 ((env.ty 27).getD ⟨.nil, .nil, .other, 0, false⟩) := tyOK_of (by kernel_rfl) (by kernel_rfl) zw27
theorem tok28 : TyOK Try.prog 28 ((env.ty 28).getD ⟨.nil, .nil, .other, 0, false⟩) := tyOK_of (by kernel_rfl) (by kernel_rfl) zw28
theorem tok29 : TyOK Try.prog 29 ((env.ty 29).getD ⟨.nil, .nil, .other, 0, false⟩) := tyOK_of (by kernel_rfl) (by kernel_rfl) zw29
theorem tok30 : TyOK Try.prog 30 ((env.ty 30).getD ⟨.nil, .nil, .other, 0, false⟩) := tyOK_of (by kernel_rfl) (by kernel_rfl) zw30
theorem tok31 : TyOK Try.prog 31 ((env.ty 31).getD ⟨.nil, .nil, .other, 0, false⟩) := tyOK_of (by kernel_rfl) (by kernel_rfl) zw31
theorem tok32 : TyOK Try.prog 32 ((env.ty 32).getD ⟨.nil, .nil, .other, 0, false⟩) := tyOK_of (by kernel_rfl) (by kernel_rfl) zw32
theorem tok33 : TyOK Try.prog 33 ((env.ty 33).getD ⟨.nil, .nil, .other, 0, false⟩) := tyOK_of (by kernel_rfl) (by kernel_rfl) zw33
theorem tok34 : TyOK Try.prog 34 ((env.ty 34).getD ⟨.nil, .nil, .other, 0, false⟩) := tyOK_of (by kernel_rfl) (by kernel_rfl) zw34
theorem tok35 : TyOK Try.prog 35 ((env.ty 35).getD ⟨.nil, .nil, .other, 0, false⟩) := tyOK_of (by kernel_rfl) (by kernel_rfl) zw35
theorem tok36 : TyOK Try.prog 36 ((env.ty 36).getD ⟨.nil, .nil, .other, 0, false⟩) := tyOK_of (by kernel_rfl) (by kernel_rfl) zw36
theorem tok37 : TyOK Try.prog 37 ((env.ty 37).getD ⟨.nil, .nil, .other, 0, false⟩) := tyOK_of (by kernel_rfl) (by kernel_rfl) zw37
theorem tok39 : TyOK Try.prog 39 ((env.ty 39).getD ⟨.nil, .nil, .other, 0, false⟩) := tyOK_of (by kernel_rfl) (by kernel_rfl) zw39
theorem tok46 : TyOK Try.prog 46 ((env.ty 46).getD ⟨.nil, .nil, .other, 0, false⟩) := tyOK_of (by kernel_rfl) (by kernel_rfl) zw46
theorem tok47 : TyOK Try.prog 47 ((env.ty 47).getD ⟨.nil, .nil, .other, 0, false⟩) := tyOK_of (by kernel_rfl) (by kernel_rfl) zw47
theorem tok64 : TyOK Try.prog 64 ((env.ty 64).getD ⟨.nil, .nil, .other, 0, false⟩) := tyOK_of (by kernel_rfl) (by kernel_rfl) zw64
theorem tok67 : TyOK Try.prog 67 ((env.ty 67).getD ⟨.nil, .nil, .other, 0, false⟩) := tyOK_of (by kernel_rfl) (by kernel_rfl) zw67
theorem tok68 : TyOK Try.prog 68 ((env.ty 68).getD ⟨.nil, .nil, .other, 0, false⟩) := tyOK_of (by kernel_rfl) (by kernel_rfl) zw68
theorem tok73 : TyOK Try.prog 73 ((env.ty 73).getD ⟨.nil, .nil, .other, 0, false⟩) := tyOK_of (by kernel_rfl) (by kernel_rfl) zw73
theorem tok78 : TyOK Try.prog 78 ((env.ty 78).getD ⟨.nil, .nil, .other, 0, false⟩) := tyOK_of (by kernel_rfl) (by kernel_rfl) zw78
theorem tok80 : TyOK Try.prog 80 ((env.ty 80).getD ⟨.nil, .nil, .other, 0, false⟩) := tyOK_of (by kernel_rfl) (by kernel_rfl) zw80
theorem tok81 : TyOK Try.prog 81 ((env.ty 81).getD ⟨.nil, .nil, .other, 0, false⟩) := tyOK_of (by kernel_rfl) (by kernel_rfl) zw81
theorem tok86 : TyOK Try.prog 86 ((env.ty 86).getD ⟨.nil, .nil, .other, 0, false⟩) := tyOK_of (by kernel_rfl) (by kernel_rfl) zw86
theorem tok87 : TyOK Try.prog 87 ((env.ty 87).getD ⟨.nil, .nil, .other, 0, false⟩) := tyOK_of (by kernel_rfl) (by kernel_rfl) zw87
theorem tok88 : TyOK Try.prog 88 ((env.ty 88).getD ⟨.nil, .nil, .other, 0, false⟩) := tyOK_of (by kernel_rfl) (by kernel_rfl) zw88
theorem tok89 : TyOK Try.prog 89 ((env.ty 89).getD ⟨.nil, .nil, .other, 0, false⟩) := tyOK_of (by kernel_rfl) (by kernel_rfl) zw89
theorem tok90 : TyOK Try.prog 90 ((env.ty 90).getD ⟨.nil, .nil, .other, 0, false⟩) := tyOK_of (by kernel_rfl) (by kernel_rfl) zw90
theorem tok91 : TyOK Try.prog 91 ((env.ty 91).getD ⟨.nil, .nil, .other, 0, false⟩) := tyOK_of (by kernel_rfl) (by kernel_rfl) zw91
theorem tok92 : TyOK Try.prog 92 ((env.ty 92).getD ⟨.nil, .nil, .other, 0, false⟩) := tyOK_of (by kernel_rfl) (by kernel_rfl) zw92
theorem tok93 : TyOK Try.prog 93 ((env.ty 93).getD ⟨.nil, .nil, .other, 0, false⟩) := tyOK_of (by kernel_rfl) (by kernel_rfl) zw93
theorem tok94 : TyOK Try.prog 94 ((env.ty 94).getD ⟨.nil, .nil, .other, 0, false⟩) := tyOK_of (by kernel_rfl) (by kernel_rfl) zw94
theorem tok95 : TyOK Try.prog 95 ((env.ty 95).getD ⟨.nil, .nil, .other, 0, false⟩) := tyOK_of (by kernel_rfl) (by kernel_rfl) zw95
theorem tok96 : TyOK Try.prog 96 ((env.ty 96).getD ⟨.nil, .nil, .other, 0, false⟩) := tyOK_of (by kernel_rfl) (by kernel_rfl) zw96
theorem tok98 : TyOK Try.prog 98 ((env.ty 98).getD ⟨.nil, .nil, .other, 0, false⟩) := tyOK_of (by kernel_rfl) (by kernel_rfl) zw98
theorem tok99 : TyOK Try.prog 99 ((env.ty 99).getD ⟨.nil, .nil, .other, 0, false⟩) := tyOK_of (by kernel_rfl) (by kernel_rfl) zw99
theorem tok100 : TyOK Try.prog 100 ((env.ty 100).getD ⟨.nil, .nil, .other, 0, false⟩) := tyOK_of (by kernel_rfl) (by kernel_rfl) zw100
theorem tok101 : TyOK Try.prog 101 ((env.ty 101).getD ⟨.nil, .nil, .other, 0, false⟩) := tyOK_of (by kernel_rfl) (by kernel_rfl) zw101
theorem tok103 : TyOK Try.prog 103 ((env.ty 103).getD ⟨.nil, .nil, .other, 0, false⟩) := tyOK_of (by kernel_rfl) (by kernel_rfl) zw103
theorem tok104 : TyOK Try.prog 104 ((env.ty 104).getD ⟨.nil, .nil, .other, 0, false⟩) := tyOK_of (by kernel_rfl) (by kernel_rfl) zw104
theorem tok105 : TyOK Try.prog 105 ((env.ty 105).getD ⟨.nil, .nil, .other, 0, false⟩) := tyOK_of (by kernel_rfl) (by kernel_rfl) zw105
theorem tok109 : TyOK Try.prog 109 ((env.ty 109).getD ⟨.nil, .nil, .other, 0, false⟩) := tyOK_of (by kernel_rfl) (by kernel_rfl) zw109
theorem tok110 : TyOK Try.prog 110 ((env.ty 110).getD ⟨.nil, .nil, .other, 0, false⟩) := tyOK_of (by kernel_rfl) (by kernel_rfl) zw110
theorem tok111 : TyOK Try.prog 111 ((env.ty 111).getD ⟨.nil, .nil, .other, 0, false⟩) := tyOK_of (by kernel_rfl) (by kernel_rfl) zw111
theorem tok112 : TyOK Try.prog 112 ((env.ty 112).getD ⟨.nil, .nil, .other, 0, false⟩) := tyOK_of (by kernel_rfl) (by kernel_rfl) zw112
theorem tok113 : TyOK Try.prog 113 ((env.ty 113).getD ⟨.nil, .nil, .other, 0, false⟩) := tyOK_of (by kernel_rfl) (by kernel_rfl) zw113
theorem tok114 : TyOK Try.prog 114 ((env.ty 114).getD ⟨.nil, .nil, .other, 0, false⟩) := tyOK_of (by kernel_rfl) (by kernel_rfl) zw114
theorem tok115 : TyOK Try.prog 115 ((env.ty 115).getD ⟨.nil, .nil, .other, 0, false⟩) := tyOK_of (by kernel_rfl) (by kernel_rfl) zw115
theorem tok116 : TyOK Try.prog 116 ((env.ty 116).getD ⟨.nil, .nil, .other, 0, false⟩) := tyOK_of (by kernel_rfl) (by kernel_rfl) zw116
theorem tok117 : TyOK Try.prog 117 ((env.ty 117).getD ⟨.nil, .nil, .other, 0, false⟩) := tyOK_of (by kernel_rfl) (by kernel_rfl) zw117
theorem tok122 : TyOK Try.prog 122 ((env.ty 122).getD ⟨.nil, .nil, .other, 0, false⟩) := tyOK_of (by kernel_rfl) (by kernel_rfl) zw122
theorem tok126 : TyOK Try.prog 126 ((env.ty 126).getD ⟨.nil, .nil, .other, 0, false⟩) := tyOK_of (by kernel_rfl) (by kernel_rfl) zw126
theorem tok148 : TyOK Try.prog 148 ((env.ty 148).getD ⟨.nil, .nil, .other, 0, false⟩) := tyOK_of (by kernel_rfl) (by kernel_rfl) zw148
theorem tok185 : TyOK Try.prog 185 ((env.ty 185).getD ⟨.nil, .nil, .other, 0, false⟩) := tyOK_of (by kernel_rfl) (by kernel_rfl) zw185
theorem tok192 : TyOK Try.prog 192 ((env.ty 192).getD ⟨.nil, .nil, .other, 0, false⟩) := tyOK_of (by kernel_rfl) (by kernel_rfl) zw192
theorem tok199 : TyOK Try.prog 199 ((env.ty 199).getD ⟨.nil, .nil, .other, 0, false⟩) := tyOK_of (by kernel_rfl) (by kernel_rfl) zw199
theorem tok215 : TyOK Try.prog 215 ((env.ty 215).getD ⟨.nil, .nil, .other, 0, false⟩) := tyOK_of (by kernel_rfl) (by kernel_rfl) zw215
theorem tok216 : TyOK Try.prog 216 ((env.ty 216).getD ⟨.nil, .nil, .other, 0, false⟩) := tyOK_of (by kernel_rfl) (by kernel_rfl) zw216
theorem tok219 : TyOK Try.prog 219 ((env.ty 219).getD ⟨.nil, .nil, .other, 0, false⟩) := tyOK_of (by kernel_rfl) (by kernel_rfl) zw219
theorem tok220 : TyOK Try.prog 220 ((env.ty 220).getD ⟨.nil, .nil, .other, 0, false⟩) := tyOK_of (by kernel_rfl) (by kernel_rfl) zw220
theorem tok223 : TyOK Try.prog 223 ((env.ty 223).getD ⟨.nil, .nil, .other, 0, false⟩) := tyOK_of (by kernel_rfl) (by kernel_rfl) zw223
theorem tok224 : TyOK Try.prog 224 ((env.ty 224).getD ⟨.nil, .nil, .other, 0, false⟩) := tyOK_of (by kernel_rfl) (by kernel_rfl) zw224
theorem tok225 : TyOK Try.prog 225 ((env.ty 225).getD ⟨.nil, .nil, .other, 0, false⟩) := tyOK_of (by kernel_rfl) (by kernel_rfl) zw225
theorem tok226 : TyOK Try.prog 226 ((env.ty 226).getD ⟨.nil, .nil, .other, 0, false⟩) := tyOK_of (by kernel_rfl) (by kernel_rfl) zw226
theorem ty_ok : ∀ t ty, env.ty t = some ty → TyOK Try.prog t ty := by
  intro t ty h
  have h : tyT t = some ty := h
  unfold tyT at h
  split at h
  · cases h; exact tok2
  · cases h; exact tok3
  · cases h; exact tok4
  · cases h; exact tok5
  · cases h; exact tok6
  · cases h; exact tok7
  · cases h; exact tok8
  · cases h; exact tok9
  · cases h; exact tok10
  · cases h; exact tok11
  · cases h; exact tok12
  · cases h; exact tok13
  · cases h; exact tok14
  · cases h; exact tok21
  · cases h; exact tok22
  · cases h; exact tok23
  · cases h; exact tok24
  · cases h; exact tok25
  · cases h; exact tok26
  · cases h; exact tok27
  · cases h; exact tok28
  · cases h; exact tok29
  · cases h; exact tok30
  · cases h; exact tok31
  · cases h; exact tok32
  · cases h; exact tok33
  · cases h; exact tok34
  · cases h; exact tok35
  · cases h; exact tok36
  · cases h; exact tok37
  · cases h; exact tok39
  · cases h; exact tok46
  · cases h; exact tok47
  · cases h; exact tok64
  · cases h; exact tok67
  · cases h; exact tok68
  · cases h; exact tok73
  · cases h; exact tok78
  · cases h; exact tok80
  · cases h; exact tok81
  · cases h; exact tok86
  · cases h; exact tok87
  · cases h; exact tok88
  · cases h; exact tok89
  · cases h; exact tok90
  · cases h; exact tok91
  · cases h; exact tok92
  · cases h; exact tok93
  · cases h; exact tok94
  · cases h; exact tok95
  · cases h; exact tok96
  · cases h; exact tok98
  · cases h; exact tok99
  · cases h; exact tok100
  · cases h; exact tok101
  · cases h; exact tok103
  · cases h; exact tok104
  · cases h; exact tok105
  · cases h; exact tok109
  · cases h; exact tok110
  · cases h; exact tok111
  · cases h; exact tok112
  · cases h; exact tok113
  · cases h; exact tok114
  · cases h; exact tok115
  · cases h; exact tok116
  · cases h; exact tok117
  · cases h; exact tok122
  · cases h; exact tok126
  · cases h; exact tok148
  · cases h; exact tok185
  · cases h; exact tok192
  · cases h; exact tok199
  · cases h; exact tok215
  · cases h; exact tok216
  · cases h; exact tok219
  · cases h; exact tok220
  · cases h; exact tok223
  · cases h; exact tok224
  · cases h; exact tok225
  · cases h; exact tok226
  · cases h
theorem env_ok : EnvOK Try.prog env := ⟨ty_ok, fun g h => by cases h⟩
theorem fns_ok : FnsOK Try.prog env := fnsOK_of (l := okT) (fun f h => by have h : okT.contains f = true := h; simpa using h) (by kernel_rfl)
end Go.Proofs.Ytfbaikkadndckaa.Ev
