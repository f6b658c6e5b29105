/- The types that the evaluator knows, and what each loop forgets: written by a program (gen.py) out of the translation. -/
import Derived.Test.YthpccjgpbcginaaEvB
namespace Go.Proofs.Ythpccjgpbcginaa.Ev
open Go
abbrev Z2 : D := .s (.int .i64 0)
abbrev Z3 : D := .s (.int .i64 0)
abbrev Z4 : D := .s (.bool false)
abbrev Z5 : D := .s (.int .u8 0)
abbrev Z6 : D := .s (.int .u8 0)
abbrev Z7 : D := .cons Z2 (.cons Z3 (.cons Z4 (.cons Z6 (.nil))))
abbrev Z8 : D := .cons Z2 (.cons Z3 (.cons Z4 (.cons Z6 (.nil))))
abbrev Z9 : D := .s (.string ByteArray.empty)
abbrev Z10 : D := .s (.string ByteArray.empty)
abbrev Z11 : D := .s (.string ByteArray.empty)
abbrev Z12 : D := .s (.int .u64 0)
abbrev Z13 : D := .cons Z9 (.cons Z12 (.nil))
abbrev Z14 : D := .cons Z9 (.cons Z12 (.nil))
abbrev Z21 : D := .s (.int .i32 0)
abbrev Z22 : D := .arr 16 (.cell (.int .i64)) fun _ => Z3
abbrev Z23 : D := .cons Z22 (.cons Z3 (.cons Z3 (.cons Z3 (.nil))))
abbrev Z24 : D := .cons Z22 (.cons Z3 (.cons Z3 (.cons Z3 (.nil))))
abbrev Z31 : D := .s (.slice none 0 0)
abbrev Z32 : D := .s (.int .u64 0)
abbrev Z33 : D := .cons Z3 (.cons Z22 (.nil))
abbrev Z34 : D := .cons Z3 (.cons Z22 (.nil))
abbrev Z36 : D := .arr 2 (.cell (.int .i64)) fun _ => Z3
abbrev Z41 : D := .s (.int .u64 0)
abbrev Z43 : D := .s (.int .u32 0)
abbrev Z44 : D := .cons Z43 (.cons Z3 (.nil))
abbrev Z45 : D := .cons Z43 (.cons Z3 (.nil))
abbrev Z46 : D := .arr 16 (.cons (.cell (.int .u32)) (.cons (.cell (.int .i64)) (.nil))) fun _ => Z45
abbrev Z47 : D := .arr 16 (.cons (.cell (.int .u32)) (.cons (.cell (.int .i64)) (.nil))) fun _ => Z45
abbrev Z48 : D := .s (.slice none 0 0)
abbrev Z56 : D := .s (.int .i64 0)
abbrev Z74 : D := .cons Z3 (.cons Z3 (.cons Z43 (.nil)))
abbrev Z75 : D := .cons Z3 (.cons Z3 (.cons Z43 (.nil)))
abbrev Z84 : D := .cons Z43 (.cons Z3 (.cons Z3 (.nil)))
abbrev Z85 : D := .cons Z43 (.cons Z3 (.cons Z3 (.nil)))
abbrev Z86 : D := .arr 16 (.cons (.cell (.int .u32)) (.cons (.cell (.int .i64)) (.cons (.cell (.int .i64)) (.nil)))) fun _ => Z85
abbrev Z87 : D := .arr 16 (.cons (.cell (.int .u32)) (.cons (.cell (.int .i64)) (.cons (.cell (.int .i64)) (.nil)))) fun _ => Z85
abbrev Z91 : D := .cons Z3 (.cons Z22 (.nil))
abbrev Z95 : D := .s (.slice none 0 0)
abbrev Z99 : D := .arr 16 (.cell (.int .u32)) fun _ => Z43
abbrev Z113 : D := .s (.int .u8 0)
abbrev Z114 : D := .s (.int .u8 0)
abbrev Z117 : D := .s (.int .i32 0)
abbrev Z118 : D := .s (.int .i32 0)
def tyT : Nat → Option Ty
  | 2 => some ⟨.cell (.int .i64), Z2, .int .i64, 8, true⟩
  | 3 => some ⟨.cell (.int .i64), Z3, .int .i64, 8, true⟩
  | 4 => some ⟨.cell .bool, Z4, .bool, 1, true⟩
  | 5 => some ⟨.cell (.int .u8), Z5, .int .u8, 1, true⟩
  | 6 => some ⟨.cell (.int .u8), Z6, .int .u8, 1, true⟩
  | 7 => some ⟨.cons (.cell (.int .i64)) (.cons (.cell (.int .i64)) (.cons (.cell .bool) (.cons (.cell (.int .u8)) (.nil)))), Z7, .str [2, 3, 4, 6], 24, false⟩
  | 8 => some ⟨.cons (.cell (.int .i64)) (.cons (.cell (.int .i64)) (.cons (.cell .bool) (.cons (.cell (.int .u8)) (.nil)))), Z8, .str [2, 3, 4, 6], 24, false⟩
  | 9 => some ⟨.cell .string, Z9, .string, 16, true⟩
  | 10 => some ⟨.cell .string, Z10, .string, 16, true⟩
  | 11 => some ⟨.cell .string, Z11, .string, 16, true⟩
  | 12 => some ⟨.cell (.int .u64), Z12, .int .u64, 8, true⟩
  | 13 => some ⟨.cons (.cell .string) (.cons (.cell (.int .u64)) (.nil)), Z13, .str [9, 12], 24, false⟩
  | 14 => some ⟨.cons (.cell .string) (.cons (.cell (.int .u64)) (.nil)), Z14, .str [9, 12], 24, false⟩
  | 21 => some ⟨.cell (.int .i32), Z21, .int .i32, 4, true⟩
  | 22 => some ⟨.arr 16 (.cell (.int .i64)), Z22, .arr 16 3, 128, true⟩
  | 23 => some ⟨.cons (.arr 16 (.cell (.int .i64))) (.cons (.cell (.int .i64)) (.cons (.cell (.int .i64)) (.cons (.cell (.int .i64)) (.nil)))), Z23, .str [22, 3, 3, 3], 152, true⟩
  | 24 => some ⟨.cons (.arr 16 (.cell (.int .i64))) (.cons (.cell (.int .i64)) (.cons (.cell (.int .i64)) (.cons (.cell (.int .i64)) (.nil)))), Z24, .str [22, 3, 3, 3], 152, true⟩
  | 31 => some ⟨.cell .other, Z31, .slice 36, 24, false⟩
  | 32 => some ⟨.cell (.int .u64), Z32, .int .u64, 8, true⟩
  | 33 => some ⟨.cons (.cell (.int .i64)) (.cons (.arr 16 (.cell (.int .i64))) (.nil)), Z33, .str [3, 22], 136, true⟩
  | 34 => some ⟨.cons (.cell (.int .i64)) (.cons (.arr 16 (.cell (.int .i64))) (.nil)), Z34, .str [3, 22], 136, true⟩
  | 36 => some ⟨.arr 2 (.cell (.int .i64)), Z36, .arr 2 3, 16, true⟩
  | 41 => some ⟨.cell (.int .u64), Z41, .int .u64, 8, true⟩
  | 43 => some ⟨.cell (.int .u32), Z43, .int .u32, 4, true⟩
  | 44 => some ⟨.cons (.cell (.int .u32)) (.cons (.cell (.int .i64)) (.nil)), Z44, .str [43, 3], 16, true⟩
  | 45 => some ⟨.cons (.cell (.int .u32)) (.cons (.cell (.int .i64)) (.nil)), Z45, .str [43, 3], 16, true⟩
  | 46 => some ⟨.arr 16 (.cons (.cell (.int .u32)) (.cons (.cell (.int .i64)) (.nil))), Z46, .arr 16 45, 256, true⟩
  | 47 => some ⟨.arr 16 (.cons (.cell (.int .u32)) (.cons (.cell (.int .i64)) (.nil))), Z47, .arr 16 45, 256, true⟩
  | 48 => some ⟨.cell .other, Z48, .slice 3, 24, false⟩
  | 56 => some ⟨.cell (.int .i64), Z56, .int .i64, 8, true⟩
  | 74 => some ⟨.cons (.cell (.int .i64)) (.cons (.cell (.int .i64)) (.cons (.cell (.int .u32)) (.nil))), Z74, .str [3, 3, 43], 24, true⟩
  | 75 => some ⟨.cons (.cell (.int .i64)) (.cons (.cell (.int .i64)) (.cons (.cell (.int .u32)) (.nil))), Z75, .str [3, 3, 43], 24, true⟩
  | 84 => some ⟨.cons (.cell (.int .u32)) (.cons (.cell (.int .i64)) (.cons (.cell (.int .i64)) (.nil))), Z84, .str [43, 3, 3], 24, true⟩
  | 85 => some ⟨.cons (.cell (.int .u32)) (.cons (.cell (.int .i64)) (.cons (.cell (.int .i64)) (.nil))), Z85, .str [43, 3, 3], 24, true⟩
  | 86 => some ⟨.arr 16 (.cons (.cell (.int .u32)) (.cons (.cell (.int .i64)) (.cons (.cell (.int .i64)) (.nil)))), Z86, .arr 16 85, 384, true⟩
  | 87 => some ⟨.arr 16 (.cons (.cell (.int .u32)) (.cons (.cell (.int .i64)) (.cons (.cell (.int .i64)) (.nil)))), Z87, .arr 16 85, 384, true⟩
  | 91 => some ⟨.cons (.cell (.int .i64)) (.cons (.arr 16 (.cell (.int .i64))) (.nil)), Z91, .str [3, 22], 136, true⟩
  | 95 => some ⟨.cell .other, Z95, .slice 5, 24, false⟩
  | 99 => some ⟨.arr 16 (.cell (.int .u32)), Z99, .arr 16 43, 64, true⟩
  | 113 => some ⟨.cell (.int .u8), Z113, .int .u8, 1, true⟩
  | 114 => some ⟨.cell (.int .u8), Z114, .int .u8, 1, true⟩
  | 117 => some ⟨.cell (.int .i32), Z117, .int .i32, 4, true⟩
  | 118 => some ⟨.cell (.int .i32), Z118, .int .i32, 4, true⟩
  | _ => none
def klT : Nat → Nat → List Nat × List Nat
  | 3, 3 => ([1, 3, 13], [1, 3])
  | 3, 9 => ([3, 66], [3])
  | 4, 7 => ([0, 7, 8, 26, 27, 28], [7, 61, 75])
  | 6, 8 => ([1, 2, 3, 7, 9, 61, 62, 63], [3, 18, 94])
  | 8, 6 => ([1, 3, 4, 34], [1, 3, 4])
  | 8, 11 => ([1, 3, 4, 5, 34, 46], [1, 3, 4])
  | 9, 4 => ([1, 2, 19], [2])
  | 9, 12 => ([1, 2, 6, 7, 8, 9, 19, 37, 38, 39], [2, 6, 29])
  | 10, 4 => ([1, 3, 4, 11], [1, 10])
  | 10, 10 => ([1, 3, 4, 6, 23, 24, 25], [1, 10, 23])
  | 11, 8 => ([1, 3, 9, 84, 85, 86], [3, 15, 109])
  | 11, 15 => ([1, 3, 9, 111], [3, 109])
  | 12, 9 => ([3, 5, 7, 8, 15, 16, 105, 106], [3, 5, 7, 28, 57, 61])
  | 12, 19 => ([3, 5, 7, 15, 127], [3, 5, 7, 57])
  | 13, 2 => ([1, 2, 3, 6, 8], [3, 6])
  | 16, 3 => ([1, 3, 5], [1, 14])
  | 20, 3 => ([1, 3, 8, 9, 10], [1, 8, 21])
  | 21, 4 => ([1, 2, 5, 6, 8], [2, 18])
  | 22, 2 => ([1, 2, 4, 6], [2, 4])
  | 25, 6 => ([1, 3, 8, 9, 10], [3, 8, 22, 24, 48, 51])
  | 26, 6 => ([1, 3, 8, 9, 10], [3, 28, 30, 57, 60])
  | 28, 4 => ([8, 9, 10, 11], [10, 16, 32])
  | 29, 4 => ([0, 1, 12, 13], [])
  | 39, 5 => ([4, 5, 11], [26])
  | 40, 5 => ([3, 11, 12, 13], [9, 11, 22])
  | 42, 3 => ([1, 2, 3, 6], [1, 2, 3])
  | 42, 6 => ([1, 2, 3, 4, 6, 9], [1, 2, 3])
  | 43, 3 => ([2, 3, 8, 9], [2, 3])
  | 43, 6 => ([2, 3, 4, 8, 9, 14, 15, 16], [2, 3, 14])
  | 44, 3 => ([1, 3, 5], [1])
  | 45, 3 => ([3, 6, 7], [])
  | 49, 3 => ([3, 6, 7], [])
  | 50, 3 => ([1, 3, 8, 9, 10], [1, 8])
  | 51, 3 => ([0, 3, 5], [3, 14])
  | 52, 3 => ([1, 3, 8, 9, 10], [1, 8])
  | 53, 3 => ([1, 3, 8, 9, 10], [1, 8])
  | 54, 3 => ([1, 3, 8, 9, 10], [1, 8])
  | 55, 5 => ([1, 2, 5, 6], [2, 15, 42])
  | 55, 8 => ([1, 2, 5, 6, 28, 29, 30], [2, 15, 28, 42])
  | 56, 5 => ([1, 2, 5, 6], [2, 15, 46])
  | 56, 8 => ([1, 2, 5, 6, 32, 33, 34], [2, 15, 32, 46])
  | 57, 5 => ([1, 5, 12, 13], [33])
  | 58, 3 => ([1, 5, 8, 9], [33])
  | 59, 3 => ([1, 2, 3, 7, 11], [3, 26])
  | 60, 3 => ([1, 2, 3, 7, 13], [3, 36])
  | 60, 8 => ([1, 2, 3, 7, 8, 13, 25, 26, 27], [3, 20, 36])
  | 61, 4 => ([11, 29, 30, 31], [19, 26])
  | 62, 7 => ([9, 13, 38, 39, 40], [22, 29, 46])
  | 62, 12 => ([13, 48, 49, 50], [22, 46])
  | 63, 3 => ([1, 2, 5, 10, 11, 12], [2, 10, 25])
  | 64, 3 => ([1, 2, 5, 10, 11, 12], [2, 10, 25])
  | 65, 6 => ([1, 2, 3, 4, 8, 10, 11, 45, 46, 47], [4, 8, 10, 42, 45])
  | 66, 5 => ([1, 2, 3, 4, 8, 10, 41, 42, 43], [4, 8, 10, 41])
  | 67, 3 => ([2, 3, 6, 7, 9], [2, 3, 23, 35])
  | 68, 3 => ([2, 3, 6, 7, 9], [2, 3, 24, 37])
  | 69, 3 => ([1, 2, 5, 10, 11, 12], [2, 5, 10, 27])
  | 70, 3 => ([1, 2, 5, 10, 11, 12], [2, 5, 10, 27])
  | 71, 3 => ([2, 5, 12, 13, 14], [2, 12])
  | 72, 3 => ([2, 5, 12, 13, 14], [2, 12])
  | 73, 3 => ([3, 6, 7], [16])
  | 74, 3 => ([0, 2, 3, 5], [2, 3])
  | 75, 3 => ([2, 3, 5, 7], [2, 3, 32])
  | 76, 2 => ([2, 4, 8, 9, 10], [2, 4, 8])
  | 82, 1 => ([0, 2, 3], [])
  | 86, 3 => ([0, 3, 5], [3, 14])
  | 88, 3 => ([3, 6, 7], [])
  | 91, 3 => ([0, 2, 3, 5], [2, 3])
  | 92, 3 => ([1, 2, 3, 5], [1, 2, 3])
  | 93, 3 => ([3, 7, 8, 9], [7])
  | 95, 4 => ([1, 2, 18, 19], [2])
  | 96, 3 => ([0, 2, 3, 5], [2, 3])
  | 103, 2 => ([0, 1, 7, 8], [])
  | 104, 3 => ([3, 6, 7], [])
  | _, _ => ([], [])
def okT : List Nat := [2, 3, 4, 5, 6, 7, 8, 9, 10, 11, 12, 13, 14, 15, 16, 17, 18, 19, 20, 21, 22, 23, 24, 25, 26, 27, 28, 29, 30, 31, 32, 33, 34, 35, 36, 37, 38, 39, 40, 41, 42, 43, 44, 45, 46, 47, 48, 49, 50, 51, 52, 53, 54, 55, 56, 57, 58, 59, 60, 61, 62, 63, 64, 65, 66, 67, 68, 69, 70, 71, 72, 73, 74, 75, 76, 77, 78, 79, 80, 81, 83, 84, 85, 86, 87, 88, 89, 90, 91, 92, 93, 94, 95, 96, 97, 98, 99, 100, 101, 102, 103, 104]
def glT : Nat → Nat → List Nat × List Nat
  | 25, 0 => ([1, 2, 3, 8, 9], [3, 8, 22, 24, 48, 51])
  | 46, 0 => ([1, 2, 5], [2])
  | _, _ => ([], [])
def dpT : Nat → Nat → List (Nat × Nat)
  | _, _ => []
def env : Env := { ty := tyT, kl := klT, ok := fun f => okT.contains f, dp := dpT, gl := glT }
theorem ty2 : env.ty 2 = some ⟨.cell (.int .i64), Z2, .int .i64, 8, true⟩ := rfl
theorem ty3 : env.ty 3 = some ⟨.cell (.int .i64), Z3, .int .i64, 8, true⟩ := rfl
theorem ty4 : env.ty 4 = some ⟨.cell .bool, Z4, .bool, 1, true⟩ := rfl
theorem ty5 : env.ty 5 = some ⟨.cell (.int .u8), Z5, .int .u8, 1, true⟩ := rfl
theorem ty6 : env.ty 6 = some ⟨.cell (.int .u8), Z6, .int .u8, 1, true⟩ := rfl
theorem ty7 : env.ty 7 = some ⟨.cons (.cell (.int .i64)) (.cons (.cell (.int .i64)) (.cons (.cell .bool) (.cons (.cell (.int .u8)) (.nil)))), Z7, .str [2, 3, 4, 6], 24, false⟩ := rfl
theorem ty8 : env.ty 8 = some ⟨.cons (.cell (.int .i64)) (.cons (.cell (.int .i64)) (.cons (.cell .bool) (.cons (.cell (.int .u8)) (.nil)))), Z8, .str [2, 3, 4, 6], 24, false⟩ := rfl
theorem ty9 : env.ty 9 = some ⟨.cell .string, Z9, .string, 16, true⟩ := rfl
theorem ty10 : env.ty 10 = some ⟨.cell .string, Z10, .string, 16, true⟩ := rfl
theorem ty11 : env.ty 11 = some ⟨.cell .string, Z11, .string, 16, true⟩ := rfl
theorem ty12 : env.ty 12 = some ⟨.cell (.int .u64), Z12, .int .u64, 8, true⟩ := rfl
theorem ty13 : env.ty 13 = some ⟨.cons (.cell .string) (.cons (.cell (.int .u64)) (.nil)), Z13, .str [9, 12], 24, false⟩ := rfl
theorem ty14 : env.ty 14 = some ⟨.cons (.cell .string) (.cons (.cell (.int .u64)) (.nil)), Z14, .str [9, 12], 24, false⟩ := rfl
theorem ty21 : env.ty 21 = some ⟨.cell (.int .i32), Z21, .int .i32, 4, true⟩ := rfl
theorem ty22 : env.ty 22 = some ⟨.arr 16 (.cell (.int .i64)), Z22, .arr 16 3, 128, true⟩ := rfl
theorem ty23 : env.ty 23 = some ⟨.cons (.arr 16 (.cell (.int .i64))) (.cons (.cell (.int .i64)) (.cons (.cell (.int .i64)) (.cons (.cell (.int .i64)) (.nil)))), Z23, .str [22, 3, 3, 3], 152, true⟩ := rfl
theorem ty24 : env.ty 24 = some ⟨.cons (.arr 16 (.cell (.int .i64))) (.cons (.cell (.int .i64)) (.cons (.cell (.int .i64)) (.cons (.cell (.int .i64)) (.nil)))), Z24, .str [22, 3, 3, 3], 152, true⟩ := rfl
theorem ty31 : env.ty 31 = some ⟨.cell .other, Z31, .slice 36, 24, false⟩ := rfl
theorem ty32 : env.ty 32 = some ⟨.cell (.int .u64), Z32, .int .u64, 8, true⟩ := rfl
theorem ty33 : env.ty 33 = some ⟨.cons (.cell (.int .i64)) (.cons (.arr 16 (.cell (.int .i64))) (.nil)), Z33, .str [3, 22], 136, true⟩ := rfl
theorem ty34 : env.ty 34 = some ⟨.cons (.cell (.int .i64)) (.cons (.arr 16 (.cell (.int .i64))) (.nil)), Z34, .str [3, 22], 136, true⟩ := rfl
theorem ty36 : env.ty 36 = some ⟨.arr 2 (.cell (.int .i64)), Z36, .arr 2 3, 16, true⟩ := rfl
theorem ty41 : env.ty 41 = some ⟨.cell (.int .u64), Z41, .int .u64, 8, true⟩ := rfl
theorem ty43 : env.ty 43 = some ⟨.cell (.int .u32), Z43, .int .u32, 4, true⟩ := rfl
theorem ty44 : env.ty 44 = some ⟨.cons (.cell (.int .u32)) (.cons (.cell (.int .i64)) (.nil)), Z44, .str [43, 3], 16, true⟩ := rfl
theorem ty45 : env.ty 45 = some ⟨.cons (.cell (.int .u32)) (.cons (.cell (.int .i64)) (.nil)), Z45, .str [43, 3], 16, true⟩ := rfl
theorem ty46 : env.ty 46 = some ⟨.arr 16 (.cons (.cell (.int .u32)) (.cons (.cell (.int .i64)) (.nil))), Z46, .arr 16 45, 256, true⟩ := rfl
theorem ty47 : env.ty 47 = some ⟨.arr 16 (.cons (.cell (.int .u32)) (.cons (.cell (.int .i64)) (.nil))), Z47, .arr 16 45, 256, true⟩ := rfl
theorem ty48 : env.ty 48 = some ⟨.cell .other, Z48, .slice 3, 24, false⟩ := rfl
theorem ty56 : env.ty 56 = some ⟨.cell (.int .i64), Z56, .int .i64, 8, true⟩ := rfl
theorem ty74 : env.ty 74 = some ⟨.cons (.cell (.int .i64)) (.cons (.cell (.int .i64)) (.cons (.cell (.int .u32)) (.nil))), Z74, .str [3, 3, 43], 24, true⟩ := rfl
theorem ty75 : env.ty 75 = some ⟨.cons (.cell (.int .i64)) (.cons (.cell (.int .i64)) (.cons (.cell (.int .u32)) (.nil))), Z75, .str [3, 3, 43], 24, true⟩ := rfl
theorem ty84 : env.ty 84 = some ⟨.cons (.cell (.int .u32)) (.cons (.cell (.int .i64)) (.cons (.cell (.int .i64)) (.nil))), Z84, .str [43, 3, 3], 24, true⟩ := rfl
theorem ty85 : env.ty 85 = some ⟨.cons (.cell (.int .u32)) (.cons (.cell (.int .i64)) (.cons (.cell (.int .i64)) (.nil))), Z85, .str [43, 3, 3], 24, true⟩ := rfl
theorem ty86 : env.ty 86 = some ⟨.arr 16 (.cons (.cell (.int .u32)) (.cons (.cell (.int .i64)) (.cons (.cell (.int .i64)) (.nil)))), Z86, .arr 16 85, 384, true⟩ := rfl
theorem ty87 : env.ty 87 = some ⟨.arr 16 (.cons (.cell (.int .u32)) (.cons (.cell (.int .i64)) (.cons (.cell (.int .i64)) (.nil)))), Z87, .arr 16 85, 384, true⟩ := rfl
theorem ty91 : env.ty 91 = some ⟨.cons (.cell (.int .i64)) (.cons (.arr 16 (.cell (.int .i64))) (.nil)), Z91, .str [3, 22], 136, true⟩ := rfl
theorem ty95 : env.ty 95 = some ⟨.cell .other, Z95, .slice 5, 24, false⟩ := rfl
theorem ty99 : env.ty 99 = some ⟨.arr 16 (.cell (.int .u32)), Z99, .arr 16 43, 64, true⟩ := rfl
theorem ty113 : env.ty 113 = some ⟨.cell (.int .u8), Z113, .int .u8, 1, true⟩ := rfl
theorem ty114 : env.ty 114 = some ⟨.cell (.int .u8), Z114, .int .u8, 1, true⟩ := rfl
theorem ty117 : env.ty 117 = some ⟨.cell (.int .i32), Z117, .int .i32, 4, true⟩ := rfl
theorem ty118 : env.ty 118 = some ⟨.cell (.int .i32), Z118, .int .i32, 4, true⟩ := rfl
theorem kl3_3 : env.kl 3 3 = ([1, 3, 13], [1, 3]) := rfl
theorem kl3_9 : env.kl 3 9 = ([3, 66], [3]) := rfl
theorem kl4_7 : env.kl 4 7 = ([0, 7, 8, 26, 27, 28], [7, 61, 75]) := rfl
theorem kl6_8 : env.kl 6 8 = ([1, 2, 3, 7, 9, 61, 62, 63], [3, 18, 94]) := rfl
theorem kl8_6 : env.kl 8 6 = ([1, 3, 4, 34], [1, 3, 4]) := rfl
theorem kl8_11 : env.kl 8 11 = ([1, 3, 4, 5, 34, 46], [1, 3, 4]) := rfl
theorem kl9_4 : env.kl 9 4 = ([1, 2, 19], [2]) := rfl
theorem kl9_12 : env.kl 9 12 = ([1, 2, 6, 7, 8, 9, 19, 37, 38, 39], [2, 6, 29]) := rfl
theorem kl10_4 : env.kl 10 4 = ([1, 3, 4, 11], [1, 10]) := rfl
theorem kl10_10 : env.kl 10 10 = ([1, 3, 4, 6, 23, 24, 25], [1, 10, 23]) := rfl
theorem kl11_8 : env.kl 11 8 = ([1, 3, 9, 84, 85, 86], [3, 15, 109]) := rfl
theorem kl11_15 : env.kl 11 15 = ([1, 3, 9, 111], [3, 109]) := rfl
theorem kl12_9 : env.kl 12 9 = ([3, 5, 7, 8, 15, 16, 105, 106], [3, 5, 7, 28, 57, 61]) := rfl
theorem kl12_19 : env.kl 12 19 = ([3, 5, 7, 15, 127], [3, 5, 7, 57]) := rfl
theorem kl13_2 : env.kl 13 2 = ([1, 2, 3, 6, 8], [3, 6]) := rfl
theorem kl16_3 : env.kl 16 3 = ([1, 3, 5], [1, 14]) := rfl
theorem kl20_3 : env.kl 20 3 = ([1, 3, 8, 9, 10], [1, 8, 21]) := rfl
theorem kl21_4 : env.kl 21 4 = ([1, 2, 5, 6, 8], [2, 18]) := rfl
theorem kl22_2 : env.kl 22 2 = ([1, 2, 4, 6], [2, 4]) := rfl
theorem kl25_6 : env.kl 25 6 = ([1, 3, 8, 9, 10], [3, 8, 22, 24, 48, 51]) := rfl
theorem kl26_6 : env.kl 26 6 = ([1, 3, 8, 9, 10], [3, 28, 30, 57, 60]) := rfl
theorem kl28_4 : env.kl 28 4 = ([8, 9, 10, 11], [10, 16, 32]) := rfl
theorem kl29_4 : env.kl 29 4 = ([0, 1, 12, 13], []) := rfl
theorem kl39_5 : env.kl 39 5 = ([4, 5, 11], [26]) := rfl
theorem kl40_5 : env.kl 40 5 = ([3, 11, 12, 13], [9, 11, 22]) := rfl
theorem kl42_3 : env.kl 42 3 = ([1, 2, 3, 6], [1, 2, 3]) := rfl
theorem kl42_6 : env.kl 42 6 = ([1, 2, 3, 4, 6, 9], [1, 2, 3]) := rfl
theorem kl43_3 : env.kl 43 3 = ([2, 3, 8, 9], [2, 3]) := rfl
theorem kl43_6 : env.kl 43 6 = ([2, 3, 4, 8, 9, 14, 15, 16], [2, 3, 14]) := rfl
theorem kl44_3 : env.kl 44 3 = ([1, 3, 5], [1]) := rfl
theorem kl45_3 : env.kl 45 3 = ([3, 6, 7], []) := rfl
theorem kl49_3 : env.kl 49 3 = ([3, 6, 7], []) := rfl
theorem kl50_3 : env.kl 50 3 = ([1, 3, 8, 9, 10], [1, 8]) := rfl
theorem kl51_3 : env.kl 51 3 = ([0, 3, 5], [3, 14]) := rfl
theorem kl52_3 : env.kl 52 3 = ([1, 3, 8, 9, 10], [1, 8]) := rfl
theorem kl53_3 : env.kl 53 3 = ([1, 3, 8, 9, 10], [1, 8]) := rfl
theorem kl54_3 : env.kl 54 3 = ([1, 3, 8, 9, 10], [1, 8]) := rfl
theorem kl55_5 : env.kl 55 5 = ([1, 2, 5, 6], [2, 15, 42]) := rfl
theorem kl55_8 : env.kl 55 8 = ([1, 2, 5, 6, 28, 29, 30], [2, 15, 28, 42]) := rfl
theorem kl56_5 : env.kl 56 5 = ([1, 2, 5, 6], [2, 15, 46]) := rfl
theorem kl56_8 : env.kl 56 8 = ([1, 2, 5, 6, 32, 33, 34], [2, 15, 32, 46]) := rfl
theorem kl57_5 : env.kl 57 5 = ([1, 5, 12, 13], [33]) := rfl
theorem kl58_3 : env.kl 58 3 = ([1, 5, 8, 9], [33]) := rfl
theorem kl59_3 : env.kl 59 3 = ([1, 2, 3, 7, 11], [3, 26]) := rfl
theorem kl60_3 : env.kl 60 3 = ([1, 2, 3, 7, 13], [3, 36]) := rfl
theorem kl60_8 : env.kl 60 8 = ([1, 2, 3, 7, 8, 13, 25, 26, 27], [3, 20, 36]) := rfl
theorem kl61_4 : env.kl 61 4 = ([11, 29, 30, 31], [19, 26]) := rfl
theorem kl62_7 : env.kl 62 7 = ([9, 13, 38, 39, 40], [22, 29, 46]) := rfl
theorem kl62_12 : env.kl 62 12 = ([13, 48, 49, 50], [22, 46]) := rfl
theorem kl63_3 : env.kl 63 3 = ([1, 2, 5, 10, 11, 12], [2, 10, 25]) := rfl
theorem kl64_3 : env.kl 64 3 = ([1, 2, 5, 10, 11, 12], [2, 10, 25]) := rfl
theorem kl65_6 : env.kl 65 6 = ([1, 2, 3, 4, 8, 10, 11, 45, 46, 47], [4, 8, 10, 42, 45]) := rfl
theorem kl66_5 : env.kl 66 5 = ([1, 2, 3, 4, 8, 10, 41, 42, 43], [4, 8, 10, 41]) := rfl
theorem kl67_3 : env.kl 67 3 = ([2, 3, 6, 7, 9], [2, 3, 23, 35]) := rfl
theorem kl68_3 : env.kl 68 3 = ([2, 3, 6, 7, 9], [2, 3, 24, 37]) := rfl
theorem kl69_3 : env.kl 69 3 = ([1, 2, 5, 10, 11, 12], [2, 5, 10, 27]) := rfl
theorem kl70_3 : env.kl 70 3 = ([1, 2, 5, 10, 11, 12], [2, 5, 10, 27]) := rfl
theorem kl71_3 : env.kl 71 3 = ([2, 5, 12, 13, 14], [2, 12]) := rfl
theorem kl72_3 : env.kl 72 3 = ([2, 5, 12, 13, 14], [2, 12]) := rfl
theorem kl73_3 : env.kl 73 3 = ([3, 6, 7], [16]) := rfl
theorem kl74_3 : env.kl 74 3 = ([0, 2, 3, 5], [2, 3]) := rfl
theorem kl75_3 : env.kl 75 3 = ([2, 3, 5, 7], [2, 3, 32]) := rfl
theorem kl76_2 : env.kl 76 2 = ([2, 4, 8, 9, 10], [2, 4, 8]) := rfl
theorem kl82_1 : env.kl 82 1 = ([0, 2, 3], []) := rfl
theorem kl86_3 : env.kl 86 3 = ([0, 3, 5], [3, 14]) := rfl
theorem kl88_3 : env.kl 88 3 = ([3, 6, 7], []) := rfl
theorem kl91_3 : env.kl 91 3 = ([0, 2, 3, 5], [2, 3]) := rfl
theorem kl92_3 : env.kl 92 3 = ([1, 2, 3, 5], [1, 2, 3]) := rfl
theorem kl93_3 : env.kl 93 3 = ([3, 7, 8, 9], [7]) := rfl
theorem kl95_4 : env.kl 95 4 = ([1, 2, 18, 19], [2]) := rfl
theorem kl96_3 : env.kl 96 3 = ([0, 2, 3, 5], [2, 3]) := rfl
theorem kl103_2 : env.kl 103 2 = ([0, 1, 7, 8], []) := rfl
theorem kl104_3 : env.kl 104 3 = ([3, 6, 7], []) := rfl
theorem dp3_5 : env.dp 3 5 = [] := rfl
theorem dp4_9 : env.dp 4 9 = [] := rfl
theorem dp5_5 : env.dp 5 5 = [] := rfl
theorem dp6_10 : env.dp 6 10 = [] := rfl
theorem dp8_2 : env.dp 8 2 = [] := rfl
theorem dp8_8 : env.dp 8 8 = [] := rfl
theorem dp8_13 : env.dp 8 13 = [] := rfl
theorem dp9_20 : env.dp 9 20 = [] := rfl
theorem dp10_14 : env.dp 10 14 = [] := rfl
theorem dp11_1 : env.dp 11 1 = [] := rfl
theorem dp11_2 : env.dp 11 2 = [] := rfl
theorem dp11_17 : env.dp 11 17 = [] := rfl
theorem dp12_5 : env.dp 12 5 = [] := rfl
theorem dp12_6 : env.dp 12 6 = [] := rfl
theorem dp12_11 : env.dp 12 11 = [] := rfl
theorem dp12_22 : env.dp 12 22 = [] := rfl
theorem dp12_25 : env.dp 12 25 = [] := rfl
theorem dp17_7 : env.dp 17 7 = [] := rfl
theorem dp18_4 : env.dp 18 4 = [] := rfl
theorem dp29_6 : env.dp 29 6 = [] := rfl
theorem dp52_5 : env.dp 52 5 = [] := rfl
theorem dp53_5 : env.dp 53 5 = [] := rfl
theorem dp55_7 : env.dp 55 7 = [] := rfl
theorem dp56_7 : env.dp 56 7 = [] := rfl
theorem dp65_9 : env.dp 65 9 = [] := rfl
theorem dp67_5 : env.dp 67 5 = [] := rfl
theorem dp67_7 : env.dp 67 7 = [] := rfl
theorem dp68_5 : env.dp 68 5 = [] := rfl
theorem dp68_7 : env.dp 68 7 = [] := rfl
theorem dp75_5 : env.dp 75 5 = [] := rfl
theorem dp100_1 : env.dp 100 1 = [] := rfl
theorem gl25_0 : env.gl 25 0 = ([1, 2, 3, 8, 9], [3, 8, 22, 24, 48, 51]) := rfl
theorem gl46_0 : env.gl 46 0 = ([1, 2, 5], [2]) := rfl
end Go.Proofs.Ythpccjgpbcginaa.Ev
