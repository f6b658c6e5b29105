/- The facts of this program that the evaluator wants: written by a program (gen.py) out of the translation. -/
import Derived.Test.YtjceimcepogkaaaGreatDoorEvE
import Derived.Test.YtjceimcepogkaaaGreatDoorEnv
import Derived.Test.YtjceimcepogkaaaGreatDoorChecked
import Derived.KernelRfl
namespace Go.Proofs.YtjceimcepogkaaaGreatDoor.Ev
open Go
theorem zw2 : Z2.WF ∧ Z2.shape = .cell (.int .i64) := ⟨rfl, rfl⟩
theorem zw3 : Z3.WF ∧ Z3.shape = .cell (.int .i64) := ⟨rfl, rfl⟩
theorem zw4 : Z4.WF ∧ Z4.shape = .cell .bool := ⟨rfl, rfl⟩
theorem zw5 : Z5.WF ∧ Z5.shape = .cell (.int .u8) := ⟨rfl, rfl⟩
theorem zw6 : Z6.WF ∧ Z6.shape = .cell (.int .u8) := ⟨rfl, rfl⟩
theorem zw7 : Z7.WF ∧ Z7.shape = .cons (.cell (.int .i64)) (.cons (.cell (.int .i64)) (.cons (.cell .bool) (.cons (.cell (.int .u8)) (.nil)))) := ⟨⟨zw2.1, zw3.1, zw4.1, zw6.1, trivial⟩, rfl⟩
theorem zw8 : Z8.WF ∧ Z8.shape = .cons (.cell (.int .i64)) (.cons (.cell (.int .i64)) (.cons (.cell .bool) (.cons (.cell (.int .u8)) (.nil)))) := ⟨⟨zw2.1, zw3.1, zw4.1, zw6.1, trivial⟩, rfl⟩
theorem zw9 : Z9.WF ∧ Z9.shape = .cell .string := ⟨rfl, rfl⟩
theorem zw10 : Z10.WF ∧ Z10.shape = .cell .string := ⟨rfl, rfl⟩
theorem zw11 : Z11.WF ∧ Z11.shape = .cell .string := ⟨rfl, rfl⟩
theorem zw12 : Z12.WF ∧ Z12.shape = .cell (.int .u64) := ⟨rfl, rfl⟩
theorem zw13 : Z13.WF ∧ Z13.shape = .cons (.cell .string) (.cons (.cell (.int .u64)) (.nil)) := ⟨⟨zw9.1, zw12.1, trivial⟩, rfl⟩
theorem zw14 : Z14.WF ∧ Z14.shape = .cons (.cell .string) (.cons (.cell (.int .u64)) (.nil)) := ⟨⟨zw9.1, zw12.1, trivial⟩, rfl⟩
theorem zw21 : Z21.WF ∧ Z21.shape = .cell (.int .i32) := ⟨rfl, rfl⟩
theorem zw22 : Z22.WF ∧ Z22.shape = .cell .other := ⟨rfl, rfl⟩
theorem zw23 : Z23.WF ∧ Z23.shape = .cell (.int .u32) := ⟨rfl, rfl⟩
theorem zw24 : Z24.WF ∧ Z24.shape = .arr 2 (.cell (.int .u32)) := ⟨fun _ => ⟨zw23.1, rfl⟩, rfl⟩
theorem zw27 : Z27.WF ∧ Z27.shape = .arr 16 (.cell (.int .u32)) := ⟨fun _ => ⟨zw23.1, rfl⟩, rfl⟩
theorem zw28 : Z28.WF ∧ Z28.shape = .cons (.cell (.int .i64)) (.cons (.arr 16 (.cell (.int .u32))) (.nil)) := ⟨⟨zw3.1, zw27.1, trivial⟩, rfl⟩
theorem zw29 : Z29.WF ∧ Z29.shape = .cons (.cell (.int .i64)) (.cons (.arr 16 (.cell (.int .u32))) (.nil)) := ⟨⟨zw3.1, zw27.1, trivial⟩, rfl⟩
theorem zw30 : Z30.WF ∧ Z30.shape = .cons (.cell (.int .u32)) (.cons (.cell (.int .i64)) (.nil)) := ⟨⟨zw23.1, zw3.1, trivial⟩, rfl⟩
theorem zw31 : Z31.WF ∧ Z31.shape = .cons (.cell (.int .u32)) (.cons (.cell (.int .i64)) (.nil)) := ⟨⟨zw23.1, zw3.1, trivial⟩, rfl⟩
theorem zw32 : Z32.WF ∧ Z32.shape = .arr 16 (.cons (.cell (.int .u32)) (.cons (.cell (.int .i64)) (.nil))) := ⟨fun _ => ⟨zw31.1, rfl⟩, rfl⟩
theorem zw33 : Z33.WF ∧ Z33.shape = .arr 16 (.cons (.cell (.int .u32)) (.cons (.cell (.int .i64)) (.nil))) := ⟨fun _ => ⟨zw31.1, rfl⟩, rfl⟩
theorem zw34 : Z34.WF ∧ Z34.shape = .arr 16 (.arr 16 (.cons (.cell (.int .u32)) (.cons (.cell (.int .i64)) (.nil)))) := ⟨fun _ => ⟨zw33.1, rfl⟩, rfl⟩
theorem zw35 : Z35.WF ∧ Z35.shape = .cons (.cell (.int .i64)) (.cons (.cons (.cell (.int .i64)) (.cons (.arr 16 (.cell (.int .u32))) (.nil))) (.cons (.arr 16 (.arr 16 (.cons (.cell (.int .u32)) (.cons (.cell (.int .i64)) (.nil))))) (.nil))) := ⟨⟨zw3.1, zw29.1, zw34.1, trivial⟩, rfl⟩
theorem zw36 : Z36.WF ∧ Z36.shape = .cons (.cell (.int .i64)) (.cons (.cons (.cell (.int .i64)) (.cons (.arr 16 (.cell (.int .u32))) (.nil))) (.cons (.arr 16 (.arr 16 (.cons (.cell (.int .u32)) (.cons (.cell (.int .i64)) (.nil))))) (.nil))) := ⟨⟨zw3.1, zw29.1, zw34.1, trivial⟩, rfl⟩
theorem zw37 : Z37.WF ∧ Z37.shape = .cons (.cell (.int .u32)) (.cons (.cell (.int .i64)) (.cons (.cell (.int .i64)) (.nil))) := ⟨⟨zw23.1, zw3.1, zw3.1, trivial⟩, rfl⟩
theorem zw38 : Z38.WF ∧ Z38.shape = .cons (.cell (.int .u32)) (.cons (.cell (.int .i64)) (.cons (.cell (.int .i64)) (.nil))) := ⟨⟨zw23.1, zw3.1, zw3.1, trivial⟩, rfl⟩
theorem zw39 : Z39.WF ∧ Z39.shape = .arr 16 (.cons (.cell (.int .u32)) (.cons (.cell (.int .i64)) (.cons (.cell (.int .i64)) (.nil)))) := ⟨fun _ => ⟨zw38.1, rfl⟩, rfl⟩
theorem zw40 : Z40.WF ∧ Z40.shape = .arr 16 (.cons (.cell (.int .u32)) (.cons (.cell (.int .i64)) (.cons (.cell (.int .i64)) (.nil)))) := ⟨fun _ => ⟨zw38.1, rfl⟩, rfl⟩
theorem zw41 : Z41.WF ∧ Z41.shape = .arr 16 (.cell (.int .i64)) := ⟨fun _ => ⟨zw3.1, rfl⟩, rfl⟩
theorem zw42 : Z42.WF ∧ Z42.shape = .cons (.cell (.int .i64)) (.cons (.arr 16 (.cell (.int .i64))) (.nil)) := ⟨⟨zw3.1, zw41.1, trivial⟩, rfl⟩
theorem zw43 : Z43.WF ∧ Z43.shape = .cons (.cell (.int .i64)) (.cons (.arr 16 (.cell (.int .i64))) (.nil)) := ⟨⟨zw3.1, zw41.1, trivial⟩, rfl⟩
theorem zw44 : Z44.WF ∧ Z44.shape = .cons (.cons (.cell (.int .i64)) (.cons (.cons (.cell (.int .i64)) (.cons (.arr 16 (.cell (.int .u32))) (.nil))) (.cons (.arr 16 (.arr 16 (.cons (.cell (.int .u32)) (.cons (.cell (.int .i64)) (.nil))))) (.nil)))) (.cons (.arr 16 (.cons (.cell (.int .u32)) (.cons (.cell (.int .i64)) (.cons (.cell (.int .i64)) (.nil))))) (.cons (.arr 16 (.cell (.int .u32))) (.cons (.cons (.cell (.int .i64)) (.cons (.arr 16 (.cell (.int .i64))) (.nil))) (.cons (.arr 16 (.cell (.int .i64))) (.cons (.arr 16 (.cell (.int .i64))) (.cons (.arr 16 (.cell (.int .i64))) (.nil))))))) := ⟨⟨zw36.1, zw40.1, zw27.1, zw43.1, zw41.1, zw41.1, zw41.1, trivial⟩, rfl⟩
theorem zw45 : Z45.WF ∧ Z45.shape = .cons (.cons (.cell (.int .i64)) (.cons (.cons (.cell (.int .i64)) (.cons (.arr 16 (.cell (.int .u32))) (.nil))) (.cons (.arr 16 (.arr 16 (.cons (.cell (.int .u32)) (.cons (.cell (.int .i64)) (.nil))))) (.nil)))) (.cons (.arr 16 (.cons (.cell (.int .u32)) (.cons (.cell (.int .i64)) (.cons (.cell (.int .i64)) (.nil))))) (.cons (.arr 16 (.cell (.int .u32))) (.cons (.cons (.cell (.int .i64)) (.cons (.arr 16 (.cell (.int .i64))) (.nil))) (.cons (.arr 16 (.cell (.int .i64))) (.cons (.arr 16 (.cell (.int .i64))) (.cons (.arr 16 (.cell (.int .i64))) (.nil))))))) := ⟨⟨zw36.1, zw40.1, zw27.1, zw43.1, zw41.1, zw41.1, zw41.1, trivial⟩, rfl⟩
theorem zw47 : Z47.WF ∧ Z47.shape = .cell .other := ⟨rfl, rfl⟩
theorem zw48 : Z48.WF ∧ Z48.shape = .cons (.cell (.int .i64)) (.cons (.cell (.int .i64)) (.cons (.cell (.int .u32)) (.cons (.cell .other) (.nil)))) := ⟨⟨zw3.1, zw3.1, zw23.1, zw47.1, trivial⟩, rfl⟩
theorem zw49 : Z49.WF ∧ Z49.shape = .cons (.cell (.int .i64)) (.cons (.cell (.int .i64)) (.cons (.cell (.int .u32)) (.cons (.cell .other) (.nil)))) := ⟨⟨zw3.1, zw3.1, zw23.1, zw47.1, trivial⟩, rfl⟩
theorem zw50 : Z50.WF ∧ Z50.shape = .cell (.int .i64) := ⟨rfl, rfl⟩
theorem zw65 : Z65.WF ∧ Z65.shape = .cons (.cell (.int .i64)) (.cons (.cell (.int .i64)) (.cons (.cell (.int .u32)) (.cons (.cell (.int .i64)) (.nil)))) := ⟨⟨zw3.1, zw3.1, zw23.1, zw3.1, trivial⟩, rfl⟩
theorem zw66 : Z66.WF ∧ Z66.shape = .cons (.cell (.int .i64)) (.cons (.cell (.int .i64)) (.cons (.cell (.int .u32)) (.cons (.cell (.int .i64)) (.nil)))) := ⟨⟨zw3.1, zw3.1, zw23.1, zw3.1, trivial⟩, rfl⟩
theorem zw83 : Z83.WF ∧ Z83.shape = .cell .other := ⟨rfl, rfl⟩
theorem zw99 : Z99.WF ∧ Z99.shape = .cell (.int .u64) := ⟨rfl, rfl⟩
theorem zw110 : Z110.WF ∧ Z110.shape = .cell (.int .u64) := ⟨rfl, rfl⟩
theorem zw112 : Z112.WF ∧ Z112.shape = .cell .other := ⟨rfl, rfl⟩
theorem zw139 : Z139.WF ∧ Z139.shape = .arr 24 (.cell (.int .u8)) := ⟨fun _ => ⟨zw5.1, rfl⟩, rfl⟩
theorem zw152 : Z152.WF ∧ Z152.shape = .arr 20 (.cell (.int .u64)) := ⟨fun _ => ⟨zw110.1, rfl⟩, rfl⟩
theorem zw153 : Z153.WF ∧ Z153.shape = .arr 65 (.cell (.int .u8)) := ⟨fun _ => ⟨zw5.1, rfl⟩, rfl⟩
theorem zw156 : Z156.WF ∧ Z156.shape = .arr 32 (.cell (.int .u8)) := ⟨fun _ => ⟨zw5.1, rfl⟩, rfl⟩
theorem zw157 : Z157.WF ∧ Z157.shape = .arr 64 (.cell (.int .u8)) := ⟨fun _ => ⟨zw5.1, rfl⟩, rfl⟩
theorem zw164 : Z164.WF ∧ Z164.shape = .cell (.int .u8) := ⟨rfl, rfl⟩
theorem zw165 : Z165.WF ∧ Z165.shape = .cell (.int .u8) := ⟨rfl, rfl⟩
theorem zw167 : Z167.WF ∧ Z167.shape = .cell (.int .i32) := ⟨rfl, rfl⟩
theorem zw168 : Z168.WF ∧ Z168.shape = .cell (.int .i32) := ⟨rfl, rfl⟩
theorem tok2 : TyOK Tryz.prog 2 ((env.ty 2).getD ⟨.nil, .nil, .other, 0, false⟩) := tyOK_of (by kernel_rfl) (by kernel_rfl) zw2
theorem tok3 : TyOK Tryz.prog 3 ((env.ty 3).getD ⟨.nil, .nil, .other, 0, false⟩) := tyOK_of (by kernel_rfl) (by kernel_rfl) zw3
theorem tok4 : TyOK Tryz.prog 4 ((env.ty 4).getD ⟨.nil, .nil, .other, 0, false⟩) := tyOK_of (by kernel_rfl) (by kernel_rfl) zw4
theorem tok5 : TyOK Tryz.prog 5 ((env.ty 5).getD ⟨.nil, .nil, .other, 0, false⟩) := tyOK_of (by kernel_rfl) (by kernel_rfl) zw5
theorem tok6 : TyOK Tryz.prog 6 ((env.ty 6).getD ⟨.nil, .nil, .other, 0, false⟩) := tyOK_of (by kernel_rfl) (by kernel_rfl) zw6
theorem tok7 : TyOK Tryz.prog 7 ((env.ty 7).getD ⟨.nil, .nil, .other, 0, false⟩) := tyOK_of (by kernel_rfl) (by kernel_rfl) zw7
theorem tok8 : TyOK Tryz.prog 8 ((env.ty 8).getD ⟨.nil, .nil, .other, 0, false⟩) := tyOK_of (by kernel_rfl) (by kernel_rfl) zw8
theorem tok9 : TyOK Tryz.prog 9 ((env.ty 9).getD ⟨.nil, .nil, .other, 0, false⟩) := tyOK_of (by kernel_rfl) (by kernel_rfl) zw9
theorem tok10 : TyOK Tryz.prog 10 ((env.ty 10).getD ⟨.nil, .nil, .other, 0, false⟩) := tyOK_of (by kernel_rfl) (by kernel_rfl) zw10
theorem tok11 : TyOK Tryz.prog 11 ((env.ty 11).getD ⟨.nil, .nil, .other, 0, false⟩) := tyOK_of (by kernel_rfl) (by kernel_rfl) zw11
theorem tok12 : TyOK Tryz.prog 12 ((env.ty 12).getD ⟨.nil, .nil, .other, 0, false⟩) := tyOK_of (by kernel_rfl) (by kernel_rfl) zw12
theorem tok13 : TyOK Tryz.prog 13 ((env.ty 13).getD ⟨.nil, .nil, .other, 0, false⟩) := tyOK_of (by kernel_rfl) (by kernel_rfl) zw13
theorem tok14 : TyOK Tryz.prog 14 ((env.ty 14).getD ⟨.nil, .nil, .other, 0, false⟩) := tyOK_of (by kernel_rfl) (by kernel_rfl) zw14
theorem tok21 : TyOK Tryz.prog 21 ((env.ty 21).getD ⟨.nil, .nil, .other, 0, false⟩) := tyOK_of (by kernel_rfl) (by kernel_rfl) zw21
theorem tok22 : TyOK Tryz.prog 22 ((env.ty 22).getD ⟨.nil, .nil, .other, 0, false⟩) := tyOK_of (by kernel_rfl) (by kernel_rfl) zw22
theorem tok23 : TyOK Tryz.prog 23 ((env.ty 23).getD ⟨.nil, .nil, .other, 0, false⟩) := tyOK_of (by kernel_rfl) (by kernel_rfl) zw23
theorem tok24 : TyOK Tryz.prog 24 ((env.ty 24).getD ⟨.nil, .nil, .other, 0, false⟩) := tyOK_of (by kernel_rfl) (by kernel_rfl) zw24
theorem tok27 : TyOK Tryz.prog 27 ((env.ty 27).getD ⟨.nil, .nil, .other, 0, false⟩) := tyOK_of (by kernel_rfl) (by kernel_rfl) zw27
theorem tok28 : TyOK Tryz.prog 28 ((env.ty 28).getD ⟨.nil, .nil, .other, 0, false⟩) := tyOK_of (by kernel_rfl) (by kernel_rfl) zw28
theorem tok29 : TyOK Tryz.prog 29 ((env.ty 29).getD ⟨.nil, .nil, .other, 0, false⟩) := tyOK_of (by kernel_rfl) (by kernel_rfl) zw29
theorem tok30 : TyOK Tryz.prog 30 ((env.ty 30).getD ⟨.nil, .nil, .other, 0, false⟩) := tyOK_of (by kernel_rfl) (by kernel_rfl) zw30
theorem tok31 : TyOK Tryz.prog 31 ((env.ty 31).getD ⟨.nil, .nil, .other, 0, false⟩) := tyOK_of (by kernel_rfl) (by kernel_rfl) zw31
theorem tok32 : TyOK Tryz.prog 32 ((env.ty 32).getD ⟨.nil, .nil, .other, 0, false⟩) := tyOK_of (by kernel_rfl) (by kernel_rfl) zw32
theorem tok33 : TyOK Tryz.prog 33 ((env.ty 33).getD ⟨.nil, .nil, .other, 0, false⟩) := tyOK_of (by kernel_rfl) (by kernel_rfl) zw33
theorem tok34 : TyOK Tryz.prog 34 ((env.ty 34).getD ⟨.nil, .nil, .other, 0, false⟩) := tyOK_of (by kernel_rfl) (by kernel_rfl) zw34
theorem tok35 : TyOK Tryz.prog 35 ((env.ty 35).getD ⟨.nil, .nil, .other, 0, false⟩) := tyOK_of (by kernel_rfl) (by kernel_rfl) zw35
theorem tok36 : TyOK Tryz.prog 36 ((env.ty 36).getD ⟨.nil, .nil, .other, 0, false⟩) := tyOK_of (by kernel_rfl) (by kernel_rfl) zw36
theorem tok37 : TyOK Tryz.prog 37 ((env.ty 37).getD ⟨.nil, .nil, .other, 0, false⟩) := tyOK_of (by kernel_rfl) (by kernel_rfl) zw37
theorem tok38 : TyOK Tryz.prog 38 ((env.ty 38).getD ⟨.nil, .nil, .other, 0, false⟩) := tyOK_of (by kernel_rfl) (by kernel_rfl) zw38
theorem tok39 : TyOK Tryz.prog 39 ((env.ty 39).getD ⟨.nil, .nil, .other, 0, false⟩) := tyOK_of (by kernel_rfl) (by kernel_rfl) zw39
theorem tok40 : TyOK Tryz.prog 40 ((env.ty 40).getD ⟨.nil, .nil, .other, 0, false⟩) := tyOK_of (by kernel_rfl) (by kernel_rfl) zw40
theorem tok41 : TyOK Tryz.prog 41 ((env.ty 41).getD ⟨.nil, .nil, .other, 0, false⟩) := tyOK_of (by kernel_rfl) (by kernel_rfl) zw41
theorem tok42 : TyOK Tryz.prog 42 ((env.ty 42).getD ⟨.nil, .nil, .other, 0, false⟩) := tyOK_of (by kernel_rfl) (by kernel_rfl) zw42
theorem tok43 : TyOK Tryz.prog 43 ((env.ty 43).getD ⟨.nil, .nil, .other, 0, false⟩) := tyOK_of (by kernel_rfl) (by kernel_rfl) zw43
theorem tok44 : TyOK Tryz.prog 44 ((env.ty 44).getD ⟨.nil, .nil, .other, 0, false⟩) := tyOK_of (by kernel_rfl) (by kernel_rfl) zw44
theorem tok45 : TyOK Tryz.prog 45 ((env.ty 45).getD ⟨.nil, .nil, .other, 0, false⟩) := tyOK_of (by kernel_rfl) (by kernel_rfl) zw45
theorem tok47 : TyOK Tryz.prog 47 ((env.ty 47).getD ⟨.nil, .nil, .other, 0, false⟩) := tyOK_of (by kernel_rfl) (by kernel_rfl) zw47
theorem tok48 : TyOK Tryz.prog 48 ((env.ty 48).getD ⟨.nil, .nil, .other, 0, false⟩) := tyOK_of (by kernel_rfl) (by kernel_rfl) zw48
theorem tok49 : TyOK Tryz.prog 49 ((env.ty 49).getD ⟨.nil, .nil, .other, 0, false⟩) := tyOK_of (by kernel_rfl) (by kernel_rfl) zw49
theorem tok50 : TyOK Tryz.prog 50 ((env.ty 50).getD ⟨.nil, .nil, .other, 0, false⟩) := tyOK_of (by kernel_rfl) (by kernel_rfl) zw50
theorem tok65 : TyOK Tryz.prog 65 ((env.ty 65).getD ⟨.nil, .nil, .other, 0, false⟩) := tyOK_of (by kernel_rfl) (by kernel_rfl) zw65
theorem tok66 : TyOK Tryz.prog 66 ((env.ty 66).getD ⟨.nil, .nil, .other, 0, false⟩) := tyOK_of (by kernel_rfl) (by kernel_rfl) zw66
theorem tok83 : TyOK Tryz.prog 83 ((env.ty 83).getD ⟨.nil, .nil, .other, 0, false⟩) := tyOK_of (by kernel_rfl) (by kernel_rfl) zw83
theorem tok99 : TyOK Tryz.prog 99 ((env.ty 99).getD ⟨.nil, .nil, .other, 0, false⟩) := tyOK_of (by kernel_rfl) (by kernel_rfl) zw99
theorem tok110 : TyOK Tryz.prog 110 ((env.ty 110).getD ⟨.nil, .nil, .other, 0, false⟩) := tyOK_of (by kernel_rfl) (by kernel_rfl) zw110
theorem tok112 : TyOK Tryz.prog 112 ((env.ty 112).getD ⟨.nil, .nil, .other, 0, false⟩) := tyOK_of (by kernel_rfl) (by kernel_rfl) zw112
theorem tok139 : TyOK Tryz.prog 139 ((env.ty 139).getD ⟨.nil, .nil, .other, 0, false⟩) := tyOK_of (by kernel_rfl) (by kernel_rfl) zw139
theorem tok152 : TyOK Tryz.prog 152 ((env.ty 152).getD ⟨.nil, .nil, .other, 0, false⟩) := tyOK_of (by kernel_rfl) (by kernel_rfl) zw152
theorem tok153 : TyOK Tryz.prog 153 ((env.ty 153).getD ⟨.nil, .nil, .other, 0, false⟩) := tyOK_of (by kernel_rfl) (by kernel_rfl) zw153
theorem tok156 : TyOK Tryz.prog 156 ((env.ty 156).getD ⟨.nil, .nil, .other, 0, false⟩) := tyOK_of (by kernel_rfl) (by kernel_rfl) zw156
theorem tok157 : TyOK Tryz.prog 157 ((env.ty 157).getD ⟨.nil, .nil, .other, 0, false⟩) := tyOK_of (by kernel_rfl) (by kernel_rfl) zw157
theorem tok164 : TyOK Tryz.prog 164 ((env.ty 164).getD ⟨.nil, .nil, .other, 0, false⟩) := tyOK_of (by kernel_rfl) (by kernel_rfl) zw164
theorem tok165 : TyOK Tryz.prog 165 ((env.ty 165).getD ⟨.nil, .nil, .other, 0, false⟩) := tyOK_of (by kernel_rfl) (by kernel_rfl) zw165
theorem tok167 : TyOK Tryz.prog 167 ((env.ty 167).getD ⟨.nil, .nil, .other, 0, false⟩) := tyOK_of (by kernel_rfl) (by kernel_rfl) zw167
theorem tok168 : TyOK Tryz.prog 168 ((env.ty 168).getD ⟨.nil, .nil, .other, 0, false⟩) := tyOK_of (by kernel_rfl) (by kernel_rfl) zw168
theorem ty_ok : ∀ t ty, env.ty t = some ty → TyOK Tryz.prog t ty := by
  intro t ty h
  have h : tyT t = some ty := h
  unfold tyT at h
  split at h
  · cases h; exact tok2
  · cases h; exact tok3
  · cases h; exact tok4
  · cases h; exact tok5
  · cases h; exact tok6
  · cases h; exact tok7
  · cases h; exact tok8
  · cases h; exact tok9
  · cases h; exact tok10
  · cases h; exact tok11
  · cases h; exact tok12
  · cases h; exact tok13
  · cases h; exact tok14
  · cases h; exact tok21
  · cases h; exact tok22
  · cases h; exact tok23
  · cases h; exact tok24
  · cases h; exact tok27
  · cases h; exact tok28
  · cases h; exact tok29
  · cases h; exact tok30
  · cases h; exact tok31
  · cases h; exact tok32
  · cases h; exact tok33
  · cases h; exact tok34
  · cases h; exact tok35
  · cases h; exact tok36
  · cases h; exact tok37
  · cases h; exact tok38
  · cases h; exact tok39
  · cases h; exact tok40
  · cases h; exact tok41
  · cases h; exact tok42
  · cases h; exact tok43
  · cases h; exact tok44
  · cases h; exact tok45
  · cases h; exact tok47
  · cases h; exact tok48
  · cases h; exact tok49
  · cases h; exact tok50
  · cases h; exact tok65
  · cases h; exact tok66
  · cases h; exact tok83
  · cases h; exact tok99
  · cases h; exact tok110
  · cases h; exact tok112
  · cases h; exact tok139
  · cases h; exact tok152
  · cases h; exact tok153
  · cases h; exact tok156
  · cases h; exact tok157
  · cases h; exact tok164
  · cases h; exact tok165
  · cases h; exact tok167
  · cases h; exact tok168
  · cases h
theorem env_ok : EnvOK Tryz.prog env := ⟨ty_ok, fun g h => by cases h⟩
theorem fns_ok : FnsOK Tryz.prog env := fnsOK_of (l := okT) (fun f h => by have h : okT.contains f = true := h; simpa using h) (by kernel_rfl)
end Go.Proofs.YtjceimcepogkaaaGreatDoor.Ev
