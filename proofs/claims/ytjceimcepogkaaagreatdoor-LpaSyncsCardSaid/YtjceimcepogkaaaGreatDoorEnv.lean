/- The types that the evaluator knows, and what each loop forgets: written by a program (gen.py) out of the translation. -/
import Derived.Test.YtjceimcepogkaaaGreatDoorEvB
namespace Go.Proofs.YtjceimcepogkaaaGreatDoor.Ev
open Go
abbrev Z2 : D := .s (.int .i64 0)
abbrev Z3 : D := .s (.int .i64 0)
abbrev Z4 : D := .s (.bool false)
abbrev Z5 : D := .s (.int .u8 0)
abbrev Z6 : D := .s (.int .u8 0)
abbrev Z7 : D := .cons Z2 (.cons Z3 (.cons Z4 (.cons Z6 (.nil))))
abbrev Z8 : D := .cons Z2 (.cons Z3 (.cons Z4 (.cons Z6 (.nil))))
abbrev Z9 : D := .s (.string ByteArray.empty)
abbrev Z10 : D := .s (.string ByteArray.empty)
abbrev Z11 : D := .s (.string ByteArray.empty)
abbrev Z12 : D := .s (.int .u64 0)
abbrev Z13 : D := .cons Z9 (.cons Z12 (.nil))
abbrev Z14 : D := .cons Z9 (.cons Z12 (.nil))
abbrev Z21 : D := .s (.int .i32 0)
abbrev Z22 : D := .s (.slice none 0 0)
abbrev Z23 : D := .s (.int .u32 0)
abbrev Z24 : D := .arr 2 (.cell (.int .u32)) fun _ => Z23
abbrev Z27 : D := .arr 16 (.cell (.int .u32)) fun _ => Z23
abbrev Z28 : D := .cons Z3 (.cons Z27 (.nil))
abbrev Z29 : D := .cons Z3 (.cons Z27 (.nil))
abbrev Z30 : D := .cons Z23 (.cons Z3 (.nil))
abbrev Z31 : D := .cons Z23 (.cons Z3 (.nil))
abbrev Z32 : D := .arr 16 (.cons (.cell (.int .u32)) (.cons (.cell (.int .i64)) (.nil))) fun _ => Z31
abbrev Z33 : D := .arr 16 (.cons (.cell (.int .u32)) (.cons (.cell (.int .i64)) (.nil))) fun _ => Z31
abbrev Z34 : D := .arr 16 (.arr 16 (.cons (.cell (.int .u32)) (.cons (.cell (.int .i64)) (.nil)))) fun _ => Z33
abbrev Z35 : D := .cons Z3 (.cons Z29 (.cons Z34 (.nil)))
abbrev Z36 : D := .cons Z3 (.cons Z29 (.cons Z34 (.nil)))
abbrev Z37 : D := .cons Z23 (.cons Z3 (.cons Z3 (.nil)))
abbrev Z38 : D := .cons Z23 (.cons Z3 (.cons Z3 (.nil)))
abbrev Z39 : D := .arr 16 (.cons (.cell (.int .u32)) (.cons (.cell (.int .i64)) (.cons (.cell (.int .i64)) (.nil)))) fun _ => Z38
abbrev Z40 : D := .arr 16 (.cons (.cell (.int .u32)) (.cons (.cell (.int .i64)) (.cons (.cell (.int .i64)) (.nil)))) fun _ => Z38
abbrev Z41 : D := .arr 16 (.cell (.int .i64)) fun _ => Z3
abbrev Z42 : D := .cons Z3 (.cons Z41 (.nil))
abbrev Z43 : D := .cons Z3 (.cons Z41 (.nil))
abbrev Z44 : D := .cons Z36 (.cons Z40 (.cons Z27 (.cons Z43 (.cons Z41 (.cons Z41 (.cons Z41 (.nil)))))))
abbrev Z45 : D := .cons Z36 (.cons Z40 (.cons Z27 (.cons Z43 (.cons Z41 (.cons Z41 (.cons Z41 (.nil)))))))
abbrev Z47 : D := .s (.slice none 0 0)
abbrev Z48 : D := .cons Z3 (.cons Z3 (.cons Z23 (.cons Z47 (.nil))))
abbrev Z49 : D := .cons Z3 (.cons Z3 (.cons Z23 (.cons Z47 (.nil))))
abbrev Z50 : D := .s (.int .i64 0)
abbrev Z65 : D := .cons Z3 (.cons Z3 (.cons Z23 (.cons Z3 (.nil))))
abbrev Z66 : D := .cons Z3 (.cons Z3 (.cons Z23 (.cons Z3 (.nil))))
abbrev Z83 : D := .s (.slice none 0 0)
abbrev Z99 : D := .s (.int .u64 0)
abbrev Z110 : D := .s (.int .u64 0)
abbrev Z112 : D := .s (.slice none 0 0)
abbrev Z139 : D := .arr 24 (.cell (.int .u8)) fun _ => Z5
abbrev Z152 : D := .arr 20 (.cell (.int .u64)) fun _ => Z110
abbrev Z153 : D := .arr 65 (.cell (.int .u8)) fun _ => Z5
abbrev Z156 : D := .arr 32 (.cell (.int .u8)) fun _ => Z5
abbrev Z157 : D := .arr 64 (.cell (.int .u8)) fun _ => Z5
abbrev Z164 : D := .s (.int .u8 0)
abbrev Z165 : D := .s (.int .u8 0)
abbrev Z167 : D := .s (.int .i32 0)
abbrev Z168 : D := .s (.int .i32 0)
def tyT : Nat → Option Ty
  | 2 => some ⟨.cell (.int .i64), Z2, .int .i64, 8, true⟩
  | 3 => some ⟨.cell (.int .i64), Z3, .int .i64, 8, true⟩
  | 4 => some ⟨.cell .bool, Z4, .bool, 1, true⟩
  | 5 => some ⟨.cell (.int .u8), Z5, .int .u8, 1, true⟩
  | 6 => some ⟨.cell (.int .u8), Z6, .int .u8, 1, true⟩
  | 7 => some ⟨.cons (.cell (.int .i64)) (.cons (.cell (.int .i64)) (.cons (.cell .bool) (.cons (.cell (.int .u8)) (.nil)))), Z7, .str [2, 3, 4, 6], 24, false⟩
  | 8 => some ⟨.cons (.cell (.int .i64)) (.cons (.cell (.int .i64)) (.cons (.cell .bool) (.cons (.cell (.int .u8)) (.nil)))), Z8, .str [2, 3, 4, 6], 24, false⟩
  | 9 => some ⟨.cell .string, Z9, .string, 16, true⟩
  | 10 => some ⟨.cell .string, Z10, .string, 16, true⟩
  | 11 => some ⟨.cell .string, Z11, .string, 16, true⟩
  | 12 => some ⟨.cell (.int .u64), Z12, .int .u64, 8, true⟩
  | 13 => some ⟨.cons (.cell .string) (.cons (.cell (.int .u64)) (.nil)), Z13, .str [9, 12], 24, false⟩
  | 14 => some ⟨.cons (.cell .string) (.cons (.cell (.int .u64)) (.nil)), Z14, .str [9, 12], 24, false⟩
  | 21 => some ⟨.cell (.int .i32), Z21, .int .i32, 4, true⟩
  | 22 => some ⟨.cell .other, Z22, .slice 49, 24, false⟩
  | 23 => some ⟨.cell (.int .u32), Z23, .int .u32, 4, true⟩
  | 24 => some ⟨.arr 2 (.cell (.int .u32)), Z24, .arr 2 23, 8, true⟩
  | 27 => some ⟨.arr 16 (.cell (.int .u32)), Z27, .arr 16 23, 64, true⟩
  | 28 => some ⟨.cons (.cell (.int .i64)) (.cons (.arr 16 (.cell (.int .u32))) (.nil)), Z28, .str [3, 27], 72, true⟩
  | 29 => some ⟨.cons (.cell (.int .i64)) (.cons (.arr 16 (.cell (.int .u32))) (.nil)), Z29, .str [3, 27], 72, true⟩
  | 30 => some ⟨.cons (.cell (.int .u32)) (.cons (.cell (.int .i64)) (.nil)), Z30, .str [23, 3], 16, true⟩
  | 31 => some ⟨.cons (.cell (.int .u32)) (.cons (.cell (.int .i64)) (.nil)), Z31, .str [23, 3], 16, true⟩
  | 32 => some ⟨.arr 16 (.cons (.cell (.int .u32)) (.cons (.cell (.int .i64)) (.nil))), Z32, .arr 16 31, 256, true⟩
  | 33 => some ⟨.arr 16 (.cons (.cell (.int .u32)) (.cons (.cell (.int .i64)) (.nil))), Z33, .arr 16 31, 256, true⟩
  | 34 => some ⟨.arr 16 (.arr 16 (.cons (.cell (.int .u32)) (.cons (.cell (.int .i64)) (.nil)))), Z34, .arr 16 33, 4096, true⟩
  | 35 => some ⟨.cons (.cell (.int .i64)) (.cons (.cons (.cell (.int .i64)) (.cons (.arr 16 (.cell (.int .u32))) (.nil))) (.cons (.arr 16 (.arr 16 (.cons (.cell (.int .u32)) (.cons (.cell (.int .i64)) (.nil))))) (.nil))), Z35, .str [3, 29, 34], 4176, true⟩
  | 36 => some ⟨.cons (.cell (.int .i64)) (.cons (.cons (.cell (.int .i64)) (.cons (.arr 16 (.cell (.int .u32))) (.nil))) (.cons (.arr 16 (.arr 16 (.cons (.cell (.int .u32)) (.cons (.cell (.int .i64)) (.nil))))) (.nil))), Z36, .str [3, 29, 34], 4176, true⟩
  | 37 => some ⟨.cons (.cell (.int .u32)) (.cons (.cell (.int .i64)) (.cons (.cell (.int .i64)) (.nil))), Z37, .str [23, 3, 3], 24, true⟩
  | 38 => some ⟨.cons (.cell (.int .u32)) (.cons (.cell (.int .i64)) (.cons (.cell (.int .i64)) (.nil))), Z38, .str [23, 3, 3], 24, true⟩
  | 39 => some ⟨.arr 16 (.cons (.cell (.int .u32)) (.cons (.cell (.int .i64)) (.cons (.cell (.int .i64)) (.nil)))), Z39, .arr 16 38, 384, true⟩
  | 40 => some ⟨.arr 16 (.cons (.cell (.int .u32)) (.cons (.cell (.int .i64)) (.cons (.cell (.int .i64)) (.nil)))), Z40, .arr 16 38, 384, true⟩
  | 41 => some ⟨.arr 16 (.cell (.int .i64)), Z41, .arr 16 3, 128, true⟩
  | 42 => some ⟨.cons (.cell (.int .i64)) (.cons (.arr 16 (.cell (.int .i64))) (.nil)), Z42, .str [3, 41], 136, true⟩
  | 43 => some ⟨.cons (.cell (.int .i64)) (.cons (.arr 16 (.cell (.int .i64))) (.nil)), Z43, .str [3, 41], 136, true⟩
  | 44 => some ⟨.cons (.cons (.cell (.int .i64)) (.cons (.cons (.cell (.int .i64)) (.cons (.arr 16 (.cell (.int .u32))) (.nil))) (.cons (.arr 16 (.arr 16 (.cons (.cell (.int .u32)) (.cons (.cell (.int .i64)) (.nil))))) (.nil)))) (.cons (.arr 16 (.cons (.cell (.int .u32)) (.cons (.cell (.int .i64)) (.cons (.cell (.int .i64)) (.nil))))) (.cons (.arr 16 (.cell (.int .u32))) (.cons (.cons (.cell (.int .i64)) (.cons (.arr 16 (.cell (.int .i64))) (.nil))) (.cons (.arr 16 (.cell (.int .i64))) (.cons (.arr 16 (.cell (.int .i64))) (.cons (.arr 16 (.cell (.int .i64))) (.nil))))))), Z44, .str [36, 40, 27, 43, 41, 41, 41], 5144, true⟩
  | 45 => some ⟨.cons (.cons (.cell (.int .i64)) (.cons (.cons (.cell (.int .i64)) (.cons (.arr 16 (.cell (.int .u32))) (.nil))) (.cons (.arr 16 (.arr 16 (.cons (.cell (.int .u32)) (.cons (.cell (.int .i64)) (.nil))))) (.nil)))) (.cons (.arr 16 (.cons (.cell (.int .u32)) (.cons (.cell (.int .i64)) (.cons (.cell (.int .i64)) (.nil))))) (.cons (.arr 16 (.cell (.int .u32))) (.cons (.cons (.cell (.int .i64)) (.cons (.arr 16 (.cell (.int .i64))) (.nil))) (.cons (.arr 16 (.cell (.int .i64))) (.cons (.arr 16 (.cell (.int .i64))) (.cons (.arr 16 (.cell (.int .i64))) (.nil))))))), Z45, .str [36, 40, 27, 43, 41, 41, 41], 5144, true⟩
  | 47 => some ⟨.cell .other, Z47, .slice 66, 24, false⟩
  | 48 => some ⟨.cons (.cell (.int .i64)) (.cons (.cell (.int .i64)) (.cons (.cell (.int .u32)) (.cons (.cell .other) (.nil)))), Z48, .str [3, 3, 23, 47], 48, false⟩
  | 49 => some ⟨.cons (.cell (.int .i64)) (.cons (.cell (.int .i64)) (.cons (.cell (.int .u32)) (.cons (.cell .other) (.nil)))), Z49, .str [3, 3, 23, 47], 48, false⟩
  | 50 => some ⟨.cell (.int .i64), Z50, .int .i64, 8, true⟩
  | 65 => some ⟨.cons (.cell (.int .i64)) (.cons (.cell (.int .i64)) (.cons (.cell (.int .u32)) (.cons (.cell (.int .i64)) (.nil)))), Z65, .str [3, 3, 23, 3], 32, true⟩
  | 66 => some ⟨.cons (.cell (.int .i64)) (.cons (.cell (.int .i64)) (.cons (.cell (.int .u32)) (.cons (.cell (.int .i64)) (.nil)))), Z66, .str [3, 3, 23, 3], 32, true⟩
  | 83 => some ⟨.cell .other, Z83, .slice 3, 24, false⟩
  | 99 => some ⟨.cell (.int .u64), Z99, .int .u64, 8, true⟩
  | 110 => some ⟨.cell (.int .u64), Z110, .int .u64, 8, true⟩
  | 112 => some ⟨.cell .other, Z112, .slice 5, 24, false⟩
  | 139 => some ⟨.arr 24 (.cell (.int .u8)), Z139, .arr 24 5, 24, true⟩
  | 152 => some ⟨.arr 20 (.cell (.int .u64)), Z152, .arr 20 110, 160, true⟩
  | 153 => some ⟨.arr 65 (.cell (.int .u8)), Z153, .arr 65 5, 65, true⟩
  | 156 => some ⟨.arr 32 (.cell (.int .u8)), Z156, .arr 32 5, 32, true⟩
  | 157 => some ⟨.arr 64 (.cell (.int .u8)), Z157, .arr 64 5, 64, true⟩
  | 164 => some ⟨.cell (.int .u8), Z164, .int .u8, 1, true⟩
  | 165 => some ⟨.cell (.int .u8), Z165, .int .u8, 1, true⟩
  | 167 => some ⟨.cell (.int .i32), Z167, .int .i32, 4, true⟩
  | 168 => some ⟨.cell (.int .i32), Z168, .int .i32, 4, true⟩
  | _ => none
def klT : Nat → Nat → List Nat × List Nat
  | 3, 5 => ([5, 7, 8, 24, 25, 26], [5, 7, 8])
  | 3, 24 => ([5, 11, 12, 13, 14, 129], [5, 11, 13, 117, 126])
  | 4, 2 => ([0, 5, 6, 7], [])
  | 6, 4 => ([2, 3, 13], [2, 3])
  | 7, 3 => ([2, 3, 12], [2, 3])
  | 12, 6 => ([1, 3, 6, 38, 39, 40], [3, 6, 38])
  | 16, 3 => ([1, 3, 9, 10, 11], [1, 9])
  | 17, 3 => ([1, 3, 9, 10, 11], [1, 9])
  | 22, 6 => ([1, 3, 6, 37, 38, 39], [3, 6, 37])
  | 29, 4 => ([1, 24, 25], [1])
  | 30, 3 => ([0, 2, 3, 5], [2, 3])
  | 31, 3 => ([0, 2, 3, 5], [2, 3])
  | 32, 3 => ([0, 2, 3, 5], [2, 3])
  | 33, 3 => ([0, 2, 3, 5], [2, 3])
  | 34, 3 => ([0, 2, 3, 5], [2, 3])
  | 35, 3 => ([0, 2, 3, 5], [2, 3])
  | 39, 3 => ([3, 6, 7], [16])
  | 40, 3 => ([2, 3, 6, 7], [2, 3])
  | 41, 3 => ([1, 2, 3, 8], [1, 2, 3])
  | 44, 2 => ([1, 2, 4, 6], [2, 4])
  | 45, 2 => ([2, 4, 7, 8, 9], [2, 4])
  | 47, 3 => ([0, 3, 5], [3, 14])
  | 51, 3 => ([1, 2, 3, 9, 13, 14], [9, 31, 39, 55])
  | 52, 5 => ([1, 3, 12, 13, 14], [1, 12])
  | 53, 3 => ([2, 3, 6, 7], [2, 3])
  | 54, 3 => ([1, 3, 7, 8, 9], [1, 3, 7])
  | 55, 3 => ([1, 3, 8, 9, 10], [1, 8])
  | 56, 5 => ([3, 11, 12, 13], [9, 11, 22])
  | 58, 3 => ([1, 3, 8, 9, 10], [1, 8])
  | 59, 3 => ([1, 3, 7, 8, 9], [1, 7])
  | 60, 3 => ([1, 3, 8, 9, 10], [1, 8])
  | 61, 3 => ([3, 7, 8, 9], [7])
  | 62, 3 => ([3, 6, 7], [15])
  | 63, 3 => ([0, 3, 5], [3, 14])
  | 69, 3 => ([3, 6, 7], [16])
  | 71, 3 => ([1, 2, 3, 9, 15, 16], [9])
  | 73, 2 => ([2, 4, 7, 8, 9], [2, 4])
  | 78, 2 => ([1, 2, 4, 6], [2, 4])
  | 81, 3 => ([3, 5, 7, 10, 11], [3, 5, 29])
  | 82, 3 => ([1, 3, 8, 9, 10], [1, 8, 21])
  | 86, 3 => ([1, 3, 7, 8], [1, 22])
  | 87, 2 => ([2, 4, 8, 9, 10], [2, 4, 8])
  | 88, 2 => ([2, 4, 8, 9, 10], [2, 4, 8])
  | 89, 3 => ([1, 2, 4, 5, 16], [2, 4, 5])
  | 89, 6 => ([1, 2, 4, 5, 6, 7, 16, 21, 22, 23], [2, 4, 5, 7, 21])
  | 89, 9 => ([1, 2, 4, 5, 6, 7, 9, 16, 21, 22, 23, 27], [2, 4, 5, 7, 21])
  | 90, 3 => ([3, 5, 7, 10, 11], [3, 5, 29])
  | 91, 3 => ([1, 2, 4, 5, 11, 12, 13], [2, 4, 9, 11])
  | 92, 2 => ([2, 4, 7, 8], [2, 4])
  | 93, 2 => ([2, 3, 6, 10, 11, 12], [3, 6, 10])
  | 94, 3 => ([2, 3, 5, 7], [2, 3, 32])
  | 98, 3 => ([1, 5, 8, 9, 10], [25])
  | 104, 3 => ([1, 3, 5], [1, 14])
  | 112, 7 => ([1, 2, 4, 7, 38, 39, 40], [2, 4, 36, 38])
  | 113, 5 => ([2, 4, 5, 13], [2, 4, 5])
  | 114, 2 => ([1, 2, 3, 6, 8], [3, 6])
  | 115, 3 => ([2, 3, 5, 7], [2, 3, 32])
  | 119, 3 => ([1, 5, 8, 9, 10], [25])
  | 122, 3 => ([3, 6, 7], [])
  | 130, 2 => ([2, 4, 8, 9, 10], [2, 4, 8])
  | 131, 2 => ([2, 4, 8, 9, 10], [2, 4, 8])
  | 132, 3 => ([1, 2, 4, 5, 11], [2, 4, 5])
  | 134, 3 => ([2, 3, 6, 7], [2, 3])
  | 144, 1 => ([0, 1, 4], [])
  | 145, 11 => ([0, 1, 3, 4, 10, 11, 12, 13, 14, 15, 16], [10, 12, 98])
  | 145, 18 => ([0, 1, 3, 4, 10, 11, 12, 13, 17], [10, 12, 98])
  | 147, 3 => ([2, 3, 4, 7, 8, 9, 18, 19, 20], [3, 4, 7, 9, 18])
  | 147, 6 => ([2, 3, 4, 7, 8, 9, 11, 18, 19, 20, 24], [3, 4, 7, 9, 18])
  | 148, 6 => ([1, 3, 8, 9, 10], [3, 8, 22, 24, 48, 51])
  | _, _ => ([], [])
def okT : List Nat := [2, 3, 4, 5, 6, 7, 8, 9, 10, 11, 13, 14, 15, 16, 17, 18, 19, 20, 21, 23, 24, 25, 26, 27, 28, 29, 30, 31, 32, 33, 34, 35, 36, 37, 38, 39, 40, 41, 42, 43, 44, 45, 46, 47, 48, 49, 50, 51, 52, 53, 55, 56, 57, 58, 59, 60, 61, 62, 63, 64, 65, 66, 67, 68, 69, 70, 71, 72, 73, 74, 75, 76, 77, 78, 79, 80, 81, 82, 83, 84, 85, 86, 87, 88, 89, 90, 91, 92, 93, 94, 95, 96, 97, 98, 100, 101, 104, 105, 106, 107, 108, 109, 110, 111, 112, 113, 114, 115, 116, 117, 118, 119, 120, 121, 122, 123, 124, 125, 126, 127, 130, 131, 132, 133, 134, 135, 136, 137, 138, 139, 140, 141, 147, 148, 154, 157, 158, 159]
def glT : Nat → Nat → List Nat × List Nat
  | 70, 0 => ([1, 2, 3, 4, 5], [1, 2, 3, 10])
  | 80, 0 => ([1, 2, 5], [2])
  | 148, 0 => ([1, 2, 3, 8, 9], [3, 8, 22, 24, 48, 51])
  | _, _ => ([], [])
def dpT : Nat → Nat → List (Nat × Nat)
  | 125, 10 => [(8, 79)]
  | 125, 14 => [(8, 120), (8, 123), (8, 125)]
  | 154, 10 => [(8, 77)]
  | 154, 15 => [(8, 119), (8, 121)]
  | _, _ => []
def env : Env := { ty := tyT, kl := klT, ok := fun f => okT.contains f, dp := dpT, gl := glT }
theorem ty2 : env.ty 2 = some ⟨.cell (.int .i64), Z2, .int .i64, 8, true⟩ := rfl
theorem ty3 : env.ty 3 = some ⟨.cell (.int .i64), Z3, .int .i64, 8, true⟩ := rfl
theorem ty4 : env.ty 4 = some ⟨.cell .bool, Z4, .bool, 1, true⟩ := rfl
theorem ty5 : env.ty 5 = some ⟨.cell (.int .u8), Z5, .int .u8, 1, true⟩ := rfl
theorem ty6 : env.ty 6 = some ⟨.cell (.int .u8), Z6, .int .u8, 1, true⟩ := rfl
theorem ty7 : env.ty 7 = some ⟨.cons (.cell (.int .i64)) (.cons (.cell (.int .i64)) (.cons (.cell .bool) (.cons (.cell (.int .u8)) (.nil)))), Z7, .str [2, 3, 4, 6], 24, false⟩ := rfl
theorem ty8 : env.ty 8 = some ⟨.cons (.cell (.int .i64)) (.cons (.cell (.int .i64)) (.cons (.cell .bool) (.cons (.cell (.int .u8)) (.nil)))), Z8, .str [2, 3, 4, 6], 24, false⟩ := rfl
theorem ty9 : env.ty 9 = some ⟨.cell .string, Z9, .string, 16, true⟩ := rfl
theorem ty10 : env.ty 10 = some ⟨.cell .string, Z10, .string, 16, true⟩ := rfl
theorem ty11 : env.ty 11 = some ⟨.cell .string, Z11, .string, 16, true⟩ := rfl
theorem ty12 : env.ty 12 = some ⟨.cell (.int .u64), Z12, .int .u64, 8, true⟩ := rfl
theorem ty13 : env.ty 13 = some ⟨.cons (.cell .string) (.cons (.cell (.int .u64)) (.nil)), Z13, .str [9, 12], 24, false⟩ := rfl
theorem ty14 : env.ty 14 = some ⟨.cons (.cell .string) (.cons (.cell (.int .u64)) (.nil)), Z14, .str [9, 12], 24, false⟩ := rfl
theorem ty21 : env.ty 21 = some ⟨.cell (.int .i32), Z21, .int .i32, 4, true⟩ := rfl
theorem ty22 : env.ty 22 = some ⟨.cell .other, Z22, .slice 49, 24, false⟩ := rfl
theorem ty23 : env.ty 23 = some ⟨.cell (.int .u32), Z23, .int .u32, 4, true⟩ := rfl
theorem ty24 : env.ty 24 = some ⟨.arr 2 (.cell (.int .u32)), Z24, .arr 2 23, 8, true⟩ := rfl
theorem ty27 : env.ty 27 = some ⟨.arr 16 (.cell (.int .u32)), Z27, .arr 16 23, 64, true⟩ := rfl
theorem ty28 : env.ty 28 = some ⟨.cons (.cell (.int .i64)) (.cons (.arr 16 (.cell (.int .u32))) (.nil)), Z28, .str [3, 27], 72, true⟩ := rfl
theorem ty29 : env.ty 29 = some ⟨.cons (.cell (.int .i64)) (.cons (.arr 16 (.cell (.int .u32))) (.nil)), Z29, .str [3, 27], 72, true⟩ := rfl
theorem ty30 : env.ty 30 = some ⟨.cons (.cell (.int .u32)) (.cons (.cell (.int .i64)) (.nil)), Z30, .str [23, 3], 16, true⟩ := rfl
theorem ty31 : env.ty 31 = some ⟨.cons (.cell (.int .u32)) (.cons (.cell (.int .i64)) (.nil)), Z31, .str [23, 3], 16, true⟩ := rfl
theorem ty32 : env.ty 32 = some ⟨.arr 16 (.cons (.cell (.int .u32)) (.cons (.cell (.int .i64)) (.nil))), Z32, .arr 16 31, 256, true⟩ := rfl
theorem ty33 : env.ty 33 = some ⟨.arr 16 (.cons (.cell (.int .u32)) (.cons (.cell (.int .i64)) (.nil))), Z33, .arr 16 31, 256, true⟩ := rfl
theorem ty34 : env.ty 34 = some ⟨.arr 16 (.arr 16 (.cons (.cell (.int .u32)) (.cons (.cell (.int .i64)) (.nil)))), Z34, .arr 16 33, 4096, true⟩ := rfl
theorem ty35 : env.ty 35 = some ⟨.cons (.cell (.int .i64)) (.cons (.cons (.cell (.int .i64)) (.cons (.arr 16 (.cell (.int .u32))) (.nil))) (.cons (.arr 16 (.arr 16 (.cons (.cell (.int .u32)) (.cons (.cell (.int .i64)) (.nil))))) (.nil))), Z35, .str [3, 29, 34], 4176, true⟩ := rfl
theorem ty36 : env.ty 36 = some ⟨.cons (.cell (.int .i64)) (.cons (.cons (.cell (.int .i64)) (.cons (.arr 16 (.cell (.int .u32))) (.nil))) (.cons (.arr 16 (.arr 16 (.cons (.cell (.int .u32)) (.cons (.cell (.int .i64)) (.nil))))) (.nil))), Z36, .str [3, 29, 34], 4176, true⟩ := rfl
theorem ty37 : env.ty 37 = some ⟨.cons (.cell (.int .u32)) (.cons (.cell (.int .i64)) (.cons (.cell (.int .i64)) (.nil))), Z37, .str [23, 3, 3], 24, true⟩ := rfl
theorem ty38 : env.ty 38 = some ⟨.cons (.cell (.int .u32)) (.cons (.cell (.int .i64)) (.cons (.cell (.int .i64)) (.nil))), Z38, .str [23, 3, 3], 24, true⟩ := rfl
theorem ty39 : env.ty 39 = some ⟨.arr 16 (.cons (.cell (.int .u32)) (.cons (.cell (.int .i64)) (.cons (.cell (.int .i64)) (.nil)))), Z39, .arr 16 38, 384, true⟩ := rfl
theorem ty40 : env.ty 40 = some ⟨.arr 16 (.cons (.cell (.int .u32)) (.cons (.cell (.int .i64)) (.cons (.cell (.int .i64)) (.nil)))), Z40, .arr 16 38, 384, true⟩ := rfl
theorem ty41 : env.ty 41 = some ⟨.arr 16 (.cell (.int .i64)), Z41, .arr 16 3, 128, true⟩ := rfl
theorem ty42 : env.ty 42 = some ⟨.cons (.cell (.int .i64)) (.cons (.arr 16 (.cell (.int .i64))) (.nil)), Z42, .str [3, 41], 136, true⟩ := rfl
theorem ty43 : env.ty 43 = some ⟨.cons (.cell (.int .i64)) (.cons (.arr 16 (.cell (.int .i64))) (.nil)), Z43, .str [3, 41], 136, true⟩ := rfl
theorem ty44 : env.ty 44 = some ⟨.cons (.cons (.cell (.int .i64)) (.cons (.cons (.cell (.int .i64)) (.cons (.arr 16 (.cell (.int .u32))) (.nil))) (.cons (.arr 16 (.arr 16 (.cons (.cell (.int .u32)) (.cons (.cell (.int .i64)) (.nil))))) (.nil)))) (.cons (.arr 16 (.cons (.cell (.int .u32)) (.cons (.cell (.int .i64)) (.cons (.cell (.int .i64)) (.nil))))) (.cons (.arr 16 (.cell (.int .u32))) (.cons (.cons (.cell (.int .i64)) (.cons (.arr 16 (.cell (.int .i64))) (.nil))) (.cons (.arr 16 (.cell (.int .i64))) (.cons (.arr 16 (.cell (.int .i64))) (.cons (.arr 16 (.cell (.int .i64))) (.nil))))))), Z44, .str [36, 40, 27, 43, 41, 41, 41], 5144, true⟩ := rfl
theorem ty45 : env.ty 45 = some ⟨.cons (.cons (.cell (.int .i64)) (.cons (.cons (.cell (.int .i64)) (.cons (.arr 16 (.cell (.int .u32))) (.nil))) (.cons (.arr 16 (.arr 16 (.cons (.cell (.int .u32)) (.cons (.cell (.int .i64)) (.nil))))) (.nil)))) (.cons (.arr 16 (.cons (.cell (.int .u32)) (.cons (.cell (.int .i64)) (.cons (.cell (.int .i64)) (.nil))))) (.cons (.arr 16 (.cell (.int .u32))) (.cons (.cons (.cell (.int .i64)) (.cons (.arr 16 (.cell (.int .i64))) (.nil))) (.cons (.arr 16 (.cell (.int .i64))) (.cons (.arr 16 (.cell (.int .i64))) (.cons (.arr 16 (.cell (.int .i64))) (.nil))))))), Z45, .str [36, 40, 27, 43, 41, 41, 41], 5144, true⟩ := rfl
theorem ty47 : env.ty 47 = some ⟨.cell .other, Z47, .slice 66, 24, false⟩ := rfl
theorem ty48 : env.ty 48 = some ⟨.cons (.cell (.int .i64)) (.cons (.cell (.int .i64)) (.cons (.cell (.int .u32)) (.cons (.cell .other) (.nil)))), Z48, .str [3, 3, 23, 47], 48, false⟩ := rfl
theorem ty49 : env.ty 49 = some ⟨.cons (.cell (.int .i64)) (.cons (.cell (.int .i64)) (.cons (.cell (.int .u32)) (.cons (.cell .other) (.nil)))), Z49, .str [3, 3, 23, 47], 48, false⟩ := rfl
theorem ty50 : env.ty 50 = some ⟨.cell (.int .i64), Z50, .int .i64, 8, true⟩ := rfl
theorem ty65 : env.ty 65 = some ⟨.cons (.cell (.int .i64)) (.cons (.cell (.int .i64)) (.cons (.cell (.int .u32)) (.cons (.cell (.int .i64)) (.nil)))), Z65, .str [3, 3, 23, 3], 32, true⟩ := rfl
theorem ty66 : env.ty 66 = some ⟨.cons (.cell (.int .i64)) (.cons (.cell (.int .i64)) (.cons (.cell (.int .u32)) (.cons (.cell (.int .i64)) (.nil)))), Z66, .str [3, 3, 23, 3], 32, true⟩ := rfl
theorem ty83 : env.ty 83 = some ⟨.cell .other, Z83, .slice 3, 24, false⟩ := rfl
theorem ty99 : env.ty 99 = some ⟨.cell (.int .u64), Z99, .int .u64, 8, true⟩ := rfl
theorem ty110 : env.ty 110 = some ⟨.cell (.int .u64), Z110, .int .u64, 8, true⟩ := rfl
theorem ty112 : env.ty 112 = some ⟨.cell .other, Z112, .slice 5, 24, false⟩ := rfl
theorem ty139 : env.ty 139 = some ⟨.arr 24 (.cell (.int .u8)), Z139, .arr 24 5, 24, true⟩ := rfl
theorem ty152 : env.ty 152 = some ⟨.arr 20 (.cell (.int .u64)), Z152, .arr 20 110, 160, true⟩ := rfl
theorem ty153 : env.ty 153 = some ⟨.arr 65 (.cell (.int .u8)), Z153, .arr 65 5, 65, true⟩ := rfl
theorem ty156 : env.ty 156 = some ⟨.arr 32 (.cell (.int .u8)), Z156, .arr 32 5, 32, true⟩ := rfl
theorem ty157 : env.ty 157 = some ⟨.arr 64 (.cell (.int .u8)), Z157, .arr 64 5, 64, true⟩ := rfl
theorem ty164 : env.ty 164 = some ⟨.cell (.int .u8), Z164, .int .u8, 1, true⟩ := rfl
theorem ty165 : env.ty 165 = some ⟨.cell (.int .u8), Z165, .int .u8, 1, true⟩ := rfl
theorem ty167 : env.ty 167 = some ⟨.cell (.int .i32), Z167, .int .i32, 4, true⟩ := rfl
theorem ty168 : env.ty 168 = some ⟨.cell (.int .i32), Z168, .int .i32, 4, true⟩ := rfl
theorem kl3_5 : env.kl 3 5 = ([5, 7, 8, 24, 25, 26], [5, 7, 8]) := rfl
theorem kl3_24 : env.kl 3 24 = ([5, 11, 12, 13, 14, 129], [5, 11, 13, 117, 126]) := rfl
theorem kl4_2 : env.kl 4 2 = ([0, 5, 6, 7], []) := rfl
theorem kl6_4 : env.kl 6 4 = ([2, 3, 13], [2, 3]) := rfl
theorem kl7_3 : env.kl 7 3 = ([2, 3, 12], [2, 3]) := rfl
theorem kl12_6 : env.kl 12 6 = ([1, 3, 6, 38, 39, 40], [3, 6, 38]) := rfl
theorem kl16_3 : env.kl 16 3 = ([1, 3, 9, 10, 11], [1, 9]) := rfl
theorem kl17_3 : env.kl 17 3 = ([1, 3, 9, 10, 11], [1, 9]) := rfl
theorem kl22_6 : env.kl 22 6 = ([1, 3, 6, 37, 38, 39], [3, 6, 37]) := rfl
theorem kl29_4 : env.kl 29 4 = ([1, 24, 25], [1]) := rfl
theorem kl30_3 : env.kl 30 3 = ([0, 2, 3, 5], [2, 3]) := rfl
theorem kl31_3 : env.kl 31 3 = ([0, 2, 3, 5], [2, 3]) := rfl
theorem kl32_3 : env.kl 32 3 = ([0, 2, 3, 5], [2, 3]) := rfl
theorem kl33_3 : env.kl 33 3 = ([0, 2, 3, 5], [2, 3]) := rfl
theorem kl34_3 : env.kl 34 3 = ([0, 2, 3, 5], [2, 3]) := rfl
theorem kl35_3 : env.kl 35 3 = ([0, 2, 3, 5], [2, 3]) := rfl
theorem kl39_3 : env.kl 39 3 = ([3, 6, 7], [16]) := rfl
theorem kl40_3 : env.kl 40 3 = ([2, 3, 6, 7], [2, 3]) := rfl
theorem kl41_3 : env.kl 41 3 = ([1, 2, 3, 8], [1, 2, 3]) := rfl
theorem kl44_2 : env.kl 44 2 = ([1, 2, 4, 6], [2, 4]) := rfl
theorem kl45_2 : env.kl 45 2 = ([2, 4, 7, 8, 9], [2, 4]) := rfl
theorem kl47_3 : env.kl 47 3 = ([0, 3, 5], [3, 14]) := rfl
theorem kl51_3 : env.kl 51 3 = ([1, 2, 3, 9, 13, 14], [9, 31, 39, 55]) := rfl
theorem kl52_5 : env.kl 52 5 = ([1, 3, 12, 13, 14], [1, 12]) := rfl
theorem kl53_3 : env.kl 53 3 = ([2, 3, 6, 7], [2, 3]) := rfl
theorem kl54_3 : env.kl 54 3 = ([1, 3, 7, 8, 9], [1, 3, 7]) := rfl
theorem kl55_3 : env.kl 55 3 = ([1, 3, 8, 9, 10], [1, 8]) := rfl
theorem kl56_5 : env.kl 56 5 = ([3, 11, 12, 13], [9, 11, 22]) := rfl
theorem kl58_3 : env.kl 58 3 = ([1, 3, 8, 9, 10], [1, 8]) := rfl
theorem kl59_3 : env.kl 59 3 = ([1, 3, 7, 8, 9], [1, 7]) := rfl
theorem kl60_3 : env.kl 60 3 = ([1, 3, 8, 9, 10], [1, 8]) := rfl
theorem kl61_3 : env.kl 61 3 = ([3, 7, 8, 9], [7]) := rfl
theorem kl62_3 : env.kl 62 3 = ([3, 6, 7], [15]) := rfl
theorem kl63_3 : env.kl 63 3 = ([0, 3, 5], [3, 14]) := rfl
theorem kl69_3 : env.kl 69 3 = ([3, 6, 7], [16]) := rfl
theorem kl71_3 : env.kl 71 3 = ([1, 2, 3, 9, 15, 16], [9]) := rfl
theorem kl73_2 : env.kl 73 2 = ([2, 4, 7, 8, 9], [2, 4]) := rfl
theorem kl78_2 : env.kl 78 2 = ([1, 2, 4, 6], [2, 4]) := rfl
theorem kl81_3 : env.kl 81 3 = ([3, 5, 7, 10, 11], [3, 5, 29]) := rfl
theorem kl82_3 : env.kl 82 3 = ([1, 3, 8, 9, 10], [1, 8, 21]) := rfl
theorem kl86_3 : env.kl 86 3 = ([1, 3, 7, 8], [1, 22]) := rfl
theorem kl87_2 : env.kl 87 2 = ([2, 4, 8, 9, 10], [2, 4, 8]) := rfl
theorem kl88_2 : env.kl 88 2 = ([2, 4, 8, 9, 10], [2, 4, 8]) := rfl
theorem kl89_3 : env.kl 89 3 = ([1, 2, 4, 5, 16], [2, 4, 5]) := rfl
theorem kl89_6 : env.kl 89 6 = ([1, 2, 4, 5, 6, 7, 16, 21, 22, 23], [2, 4, 5, 7, 21]) := rfl
theorem kl89_9 : env.kl 89 9 = ([1, 2, 4, 5, 6, 7, 9, 16, 21, 22, 23, 27], [2, 4, 5, 7, 21]) := rfl
theorem kl90_3 : env.kl 90 3 = ([3, 5, 7, 10, 11], [3, 5, 29]) := rfl
theorem kl91_3 : env.kl 91 3 = ([1, 2, 4, 5, 11, 12, 13], [2, 4, 9, 11]) := rfl
theorem kl92_2 : env.kl 92 2 = ([2, 4, 7, 8], [2, 4]) := rfl
theorem kl93_2 : env.kl 93 2 = ([2, 3, 6, 10, 11, 12], [3, 6, 10]) := rfl
theorem kl94_3 : env.kl 94 3 = ([2, 3, 5, 7], [2, 3, 32]) := rfl
theorem kl98_3 : env.kl 98 3 = ([1, 5, 8, 9, 10], [25]) := rfl
theorem kl104_3 : env.kl 104 3 = ([1, 3, 5], [1, 14]) := rfl
theorem kl112_7 : env.kl 112 7 = ([1, 2, 4, 7, 38, 39, 40], [2, 4, 36, 38]) := rfl
theorem kl113_5 : env.kl 113 5 = ([2, 4, 5, 13], [2, 4, 5]) := rfl
theorem kl114_2 : env.kl 114 2 = ([1, 2, 3, 6, 8], [3, 6]) := rfl
theorem kl115_3 : env.kl 115 3 = ([2, 3, 5, 7], [2, 3, 32]) := rfl
theorem kl119_3 : env.kl 119 3 = ([1, 5, 8, 9, 10], [25]) := rfl
theorem kl122_3 : env.kl 122 3 = ([3, 6, 7], []) := rfl
theorem kl130_2 : env.kl 130 2 = ([2, 4, 8, 9, 10], [2, 4, 8]) := rfl
theorem kl131_2 : env.kl 131 2 = ([2, 4, 8, 9, 10], [2, 4, 8]) := rfl
theorem kl132_3 : env.kl 132 3 = ([1, 2, 4, 5, 11], [2, 4, 5]) := rfl
theorem kl134_3 : env.kl 134 3 = ([2, 3, 6, 7], [2, 3]) := rfl
theorem kl144_1 : env.kl 144 1 = ([0, 1, 4], []) := rfl
theorem kl145_11 : env.kl 145 11 = ([0, 1, 3, 4, 10, 11, 12, 13, 14, 15, 16], [10, 12, 98]) := rfl
theorem kl145_18 : env.kl 145 18 = ([0, 1, 3, 4, 10, 11, 12, 13, 17], [10, 12, 98]) := rfl
theorem kl147_3 : env.kl 147 3 = ([2, 3, 4, 7, 8, 9, 18, 19, 20], [3, 4, 7, 9, 18]) := rfl
theorem kl147_6 : env.kl 147 6 = ([2, 3, 4, 7, 8, 9, 11, 18, 19, 20, 24], [3, 4, 7, 9, 18]) := rfl
theorem kl148_6 : env.kl 148 6 = ([1, 3, 8, 9, 10], [3, 8, 22, 24, 48, 51]) := rfl
theorem dp3_19 : env.dp 3 19 = [] := rfl
theorem dp3_21 : env.dp 3 21 = [] := rfl
theorem dp3_22 : env.dp 3 22 = [] := rfl
theorem dp5_3 : env.dp 5 3 = [] := rfl
theorem dp5_4 : env.dp 5 4 = [] := rfl
theorem dp10_5 : env.dp 10 5 = [] := rfl
theorem dp13_3 : env.dp 13 3 = [] := rfl
theorem dp13_4 : env.dp 13 4 = [] := rfl
theorem dp14_1 : env.dp 14 1 = [] := rfl
theorem dp14_2 : env.dp 14 2 = [] := rfl
theorem dp15_1 : env.dp 15 1 = [] := rfl
theorem dp18_1 : env.dp 18 1 = [] := rfl
theorem dp18_6 : env.dp 18 6 = [] := rfl
theorem dp19_1 : env.dp 19 1 = [] := rfl
theorem dp19_4 : env.dp 19 4 = [] := rfl
theorem dp21_3 : env.dp 21 3 = [] := rfl
theorem dp29_1 : env.dp 29 1 = [] := rfl
theorem dp29_6 : env.dp 29 6 = [] := rfl
theorem dp41_13 : env.dp 41 13 = [] := rfl
theorem dp50_1 : env.dp 50 1 = [] := rfl
theorem dp52_1 : env.dp 52 1 = [] := rfl
theorem dp52_8 : env.dp 52 8 = [] := rfl
theorem dp55_5 : env.dp 55 5 = [] := rfl
theorem dp57_1 : env.dp 57 1 = [] := rfl
theorem dp58_5 : env.dp 58 5 = [] := rfl
theorem dp59_5 : env.dp 59 5 = [] := rfl
theorem dp60_5 : env.dp 60 5 = [] := rfl
theorem dp70_1 : env.dp 70 1 = [] := rfl
theorem dp70_7 : env.dp 70 7 = [] := rfl
theorem dp71_6 : env.dp 71 6 = [] := rfl
theorem dp72_1 : env.dp 72 1 = [] := rfl
theorem dp89_14 : env.dp 89 14 = [] := rfl
theorem dp92_4 : env.dp 92 4 = [] := rfl
theorem dp94_5 : env.dp 94 5 = [] := rfl
theorem dp105_3 : env.dp 105 3 = [] := rfl
theorem dp107_3 : env.dp 107 3 = [] := rfl
theorem dp113_7 : env.dp 113 7 = [] := rfl
theorem dp115_5 : env.dp 115 5 = [] := rfl
theorem dp124_1 : env.dp 124 1 = [] := rfl
theorem dp125_10 : env.dp 125 10 = [(8, 79)] := rfl
theorem dp125_14 : env.dp 125 14 = [(8, 120), (8, 123), (8, 125)] := rfl
theorem dp126_1 : env.dp 126 1 = [] := rfl
theorem dp132_5 : env.dp 132 5 = [] := rfl
theorem dp147_8 : env.dp 147 8 = [] := rfl
theorem dp147_11 : env.dp 147 11 = [] := rfl
theorem dp147_14 : env.dp 147 14 = [] := rfl
theorem dp154_10 : env.dp 154 10 = [(8, 77)] := rfl
theorem dp154_15 : env.dp 154 15 = [(8, 119), (8, 121)] := rfl
theorem gl70_0 : env.gl 70 0 = ([1, 2, 3, 4, 5], [1, 2, 3, 10]) := rfl
theorem gl80_0 : env.gl 80 0 = ([1, 2, 5], [2]) := rfl
theorem gl148_0 : env.gl 148 0 = ([1, 2, 3, 8, 9], [3, 8, 22, 24, 48, 51]) := rfl
end Go.Proofs.YtjceimcepogkaaaGreatDoor.Ev
