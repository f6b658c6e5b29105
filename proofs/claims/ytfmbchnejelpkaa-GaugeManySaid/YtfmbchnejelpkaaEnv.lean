/- The types that the evaluator knows, and what each loop forgets: written by a program (gen.py) out of the translation. -/
import Derived.Test.YtfmbchnejelpkaaEvB
namespace Go.Proofs.Ytfmbchnejelpkaa.Ev
open Go
abbrev Z2 : D := .s (.int .i64 0)
abbrev Z3 : D := .s (.int .i64 0)
abbrev Z4 : D := .s (.bool false)
abbrev Z5 : D := .s (.int .u8 0)
abbrev Z6 : D := .s (.int .u8 0)
abbrev Z7 : D := .cons Z2 (.cons Z3 (.cons Z4 (.cons Z6 (.nil))))
abbrev Z8 : D := .cons Z2 (.cons Z3 (.cons Z4 (.cons Z6 (.nil))))
abbrev Z9 : D := .s (.string ByteArray.empty)
abbrev Z10 : D := .s (.string ByteArray.empty)
abbrev Z11 : D := .s (.string ByteArray.empty)
abbrev Z12 : D := .s (.int .u64 0)
abbrev Z13 : D := .cons Z9 (.cons Z12 (.nil))
abbrev Z14 : D := .cons Z9 (.cons Z12 (.nil))
abbrev Z21 : D := .s (.int .i32 0)
abbrev Z22 : D := .s (.float .f64 0)
abbrev Z27 : D := .s (.int .u32 0)
abbrev Z31 : D := .s (.int .u16 0)
abbrev Z32 : D := .s (.int .u64 0)
abbrev Z33 : D := .s (.int .i64 0)
abbrev Z37 : D := .s (.slice none 0 0)
abbrev Z41 : D := .s (.slice none 0 0)
abbrev Z56 : D := .s (.int .u64 0)
abbrev Z64 : D := .s (.int .u8 0)
abbrev Z65 : D := .s (.int .u8 0)
abbrev Z68 : D := .s (.int .i32 0)
abbrev Z69 : D := .s (.int .i32 0)
def tyT : Nat → Option Ty
  | 2 => some ⟨.cell (.int .i64), Z2, .int .i64, 8, true⟩
  | 3 => some ⟨.cell (.int .i64), Z3, .int .i64, 8, true⟩
  | 4 => some ⟨.cell .bool, Z4, .bool, 1, true⟩
  | 5 => some ⟨.cell (.int .u8), Z5, .int .u8, 1, true⟩
  | 6 => some ⟨.cell (.int .u8), Z6, .int .u8, 1, true⟩
  | 7 => some ⟨.cons (.cell (.int .i64)) (.cons (.cell (.int .i64)) (.cons (.cell .bool) (.cons (.cell (.int .u8)) (.nil)))), Z7, .str [2, 3, 4, 6], 24, false⟩
  | 8 => some ⟨.cons (.cell (.int .i64)) (.cons (.cell (.int .i64)) (.cons (.cell .bool) (.cons (.cell (.int .u8)) (.nil)))), Z8, .str [2, 3, 4, 6], 24, false⟩
  | 9 => some ⟨.cell .string, Z9, .string, 16, true⟩
  | 10 => some ⟨.cell .string, Z10, .string, 16, true⟩
  | 11 => some ⟨.cell .string, Z11, .string, 16, true⟩
  | 12 => some ⟨.cell (.int .u64), Z12, .int .u64, 8, true⟩
  | 13 => some ⟨.cons (.cell .string) (.cons (.cell (.int .u64)) (.nil)), Z13, .str [9, 12], 24, false⟩
  | 14 => some ⟨.cons (.cell .string) (.cons (.cell (.int .u64)) (.nil)), Z14, .str [9, 12], 24, false⟩
  | 21 => some ⟨.cell (.int .i32), Z21, .int .i32, 4, true⟩
  | 22 => some ⟨.cell (.float .f64), Z22, .float .f64, 8, false⟩
  | 27 => some ⟨.cell (.int .u32), Z27, .int .u32, 4, true⟩
  | 31 => some ⟨.cell (.int .u16), Z31, .int .u16, 2, true⟩
  | 32 => some ⟨.cell (.int .u64), Z32, .int .u64, 8, true⟩
  | 33 => some ⟨.cell (.int .i64), Z33, .int .i64, 8, true⟩
  | 37 => some ⟨.cell .other, Z37, .slice 22, 24, false⟩
  | 41 => some ⟨.cell .other, Z41, .slice 3, 24, false⟩
  | 56 => some ⟨.cell (.int .u64), Z56, .int .u64, 8, true⟩
  | 64 => some ⟨.cell (.int .u8), Z64, .int .u8, 1, true⟩
  | 65 => some ⟨.cell (.int .u8), Z65, .int .u8, 1, true⟩
  | 68 => some ⟨.cell (.int .i32), Z68, .int .i32, 4, true⟩
  | 69 => some ⟨.cell (.int .i32), Z69, .int .i32, 4, true⟩
  | _ => none
def klT : Nat → Nat → List Nat × List Nat
  | 6, 13 => ([0, 5, 6, 15, 16, 17, 18, 102, 103], [31, 33, 56, 59])
  | 6, 20 => ([0, 5, 6, 15, 17, 18, 123, 124], [31, 33, 56])
  | 16, 3 => ([3, 8, 9, 10], [3, 30, 34, 38, 43])
  | 16, 6 => ([3, 5, 6, 8, 9, 10], [3, 30, 34, 38, 43])
  | 18, 3 => ([4, 7, 8, 9], [4, 18])
  | 19, 6 => ([4, 5, 13, 14, 15], [9])
  | 20, 3 => ([4, 5, 8, 9, 10], [])
  | 21, 2 => ([0, 1, 13, 14, 15], [])
  | 21, 9 => ([1, 7, 41, 42, 43], [40])
  | 21, 13 => ([1, 7, 9, 10, 11, 41, 42, 43], [40])
  | 22, 2 => ([0, 1, 11, 12, 13], [])
  | 22, 9 => ([1, 7, 39, 40, 41], [38])
  | 22, 13 => ([1, 7, 9, 10, 39, 40, 41], [38])
  | 26, 3 => ([5, 6, 7, 13, 14, 15], [10, 11, 13])
  | 31, 3 => ([3, 6, 7, 8], [3, 17])
  | 35, 2 => ([0, 1, 2, 6, 7, 8], [63])
  | 35, 7 => ([0, 1, 2, 6], [63])
  | 35, 9 => ([0, 1, 2, 6, 7, 8], [63])
  | 36, 1 => ([0, 1, 2, 3, 8], [53])
  | 36, 4 => ([0, 1, 2, 3, 8, 9], [53])
  | 37, 3 => ([0, 1, 4, 10, 11], [220])
  | 37, 9 => ([0, 10, 13], [220])
  | 37, 15 => ([0, 2, 4, 14, 15], [220])
  | 37, 21 => ([0, 14, 17], [220])
  | 37, 33 => ([0, 1, 2, 3, 4, 18, 19, 20, 21, 22], [220])
  | 38, 2 => ([0, 2, 4, 10, 11], [58])
  | 39, 1 => ([0, 1, 2, 3, 10], [38])
  | _, _ => ([], [])
def okT : List Nat := [2, 3, 4, 5, 6, 7, 8, 9, 10, 11, 12, 13, 14, 15, 17, 18, 19, 20, 23, 24, 25, 26, 27, 28, 29, 30, 31, 32, 35, 36, 37, 38, 39]
def glT : Nat → Nat → List Nat × List Nat
  | _, _ => ([], [])
def dpT : Nat → Nat → List (Nat × Nat)
  | _, _ => []
def env : Env := { ty := tyT, kl := klT, ok := fun f => okT.contains f, dp := dpT, gl := glT }
theorem ty2 : env.ty 2 = some ⟨.cell (.int .i64), Z2, .int .i64, 8, true⟩ := rfl
theorem ty3 : env.ty 3 = some ⟨.cell (.int .i64), Z3, .int .i64, 8, true⟩ := rfl
theorem ty4 : env.ty 4 = some ⟨.cell .bool, Z4, .bool, 1, true⟩ := rfl
theorem ty5 : env.ty 5 = some ⟨.cell (.int .u8), Z5, .int .u8, 1, true⟩ := rfl
theorem ty6 : env.ty 6 = some ⟨.cell (.int .u8), Z6, .int .u8, 1, true⟩ := rfl
theorem ty7 : env.ty 7 = some ⟨.cons (.cell (.int .i64)) (.cons (.cell (.int .i64)) (.cons (.cell .bool) (.cons (.cell (.int .u8)) (.nil)))), Z7, .str [2, 3, 4, 6], 24, false⟩ := rfl
theorem ty8 : env.ty 8 = some ⟨.cons (.cell (.int .i64)) (.cons (.cell (.int .i64)) (.cons (.cell .bool) (.cons (.cell (.int .u8)) (.nil)))), Z8, .str [2, 3, 4, 6], 24, false⟩ := rfl
theorem ty9 : env.ty 9 = some ⟨.cell .string, Z9, .string, 16, true⟩ := rfl
theorem ty10 : env.ty 10 = some ⟨.cell .string, Z10, .string, 16, true⟩ := rfl
theorem ty11 : env.ty 11 = some ⟨.cell .string, Z11, .string, 16, true⟩ := rfl
theorem ty12 : env.ty 12 = some ⟨.cell (.int .u64), Z12, .int .u64, 8, true⟩ := rfl
theorem ty13 : env.ty 13 = some ⟨.cons (.cell .string) (.cons (.cell (.int .u64)) (.nil)), Z13, .str [9, 12], 24, false⟩ := rfl
theorem ty14 : env.ty 14 = some ⟨.cons (.cell .string) (.cons (.cell (.int .u64)) (.nil)), Z14, .str [9, 12], 24, false⟩ := rfl
theorem ty21 : env.ty 21 = some ⟨.cell (.int .i32), Z21, .int .i32, 4, true⟩ := rfl
theorem ty22 : env.ty 22 = some ⟨.cell (.float .f64), Z22, .float .f64, 8, false⟩ := rfl
theorem ty27 : env.ty 27 = some ⟨.cell (.int .u32), Z27, .int .u32, 4, true⟩ := rfl
theorem ty31 : env.ty 31 = some ⟨.cell (.int .u16), Z31, .int .u16, 2, true⟩ := rfl
theorem ty32 : env.ty 32 = some ⟨.cell (.int .u64), Z32, .int .u64, 8, true⟩ := rfl
theorem ty33 : env.ty 33 = some ⟨.cell (.int .i64), Z33, .int .i64, 8, true⟩ := rfl
theorem ty37 : env.ty 37 = some ⟨.cell .other, Z37, .slice 22, 24, false⟩ := rfl
theorem ty41 : env.ty 41 = some ⟨.cell .other, Z41, .slice 3, 24, false⟩ := rfl
theorem ty56 : env.ty 56 = some ⟨.cell (.int .u64), Z56, .int .u64, 8, true⟩ := rfl
theorem ty64 : env.ty 64 = some ⟨.cell (.int .u8), Z64, .int .u8, 1, true⟩ := rfl
theorem ty65 : env.ty 65 = some ⟨.cell (.int .u8), Z65, .int .u8, 1, true⟩ := rfl
theorem ty68 : env.ty 68 = some ⟨.cell (.int .i32), Z68, .int .i32, 4, true⟩ := rfl
theorem ty69 : env.ty 69 = some ⟨.cell (.int .i32), Z69, .int .i32, 4, true⟩ := rfl
theorem kl6_13 : env.kl 6 13 = ([0, 5, 6, 15, 16, 17, 18, 102, 103], [31, 33, 56, 59]) := rfl
theorem kl6_20 : env.kl 6 20 = ([0, 5, 6, 15, 17, 18, 123, 124], [31, 33, 56]) := rfl
theorem kl16_3 : env.kl 16 3 = ([3, 8, 9, 10], [3, 30, 34, 38, 43]) := rfl
theorem kl16_6 : env.kl 16 6 = ([3, 5, 6, 8, 9, 10], [3, 30, 34, 38, 43]) := rfl
theorem kl18_3 : env.kl 18 3 = ([4, 7, 8, 9], [4, 18]) := rfl
theorem kl19_6 : env.kl 19 6 = ([4, 5, 13, 14, 15], [9]) := rfl
theorem kl20_3 : env.kl 20 3 = ([4, 5, 8, 9, 10], []) := rfl
theorem kl21_2 : env.kl 21 2 = ([0, 1, 13, 14, 15], []) := rfl
theorem kl21_9 : env.kl 21 9 = ([1, 7, 41, 42, 43], [40]) := rfl
theorem kl21_13 : env.kl 21 13 = ([1, 7, 9, 10, 11, 41, 42, 43], [40]) := rfl
theorem kl22_2 : env.kl 22 2 = ([0, 1, 11, 12, 13], []) := rfl
theorem kl22_9 : env.kl 22 9 = ([1, 7, 39, 40, 41], [38]) := rfl
theorem kl22_13 : env.kl 22 13 = ([1, 7, 9, 10, 39, 40, 41], [38]) := rfl
theorem kl26_3 : env.kl 26 3 = ([5, 6, 7, 13, 14, 15], [10, 11, 13]) := rfl
theorem kl31_3 : env.kl 31 3 = ([3, 6, 7, 8], [3, 17]) := rfl
theorem kl35_2 : env.kl 35 2 = ([0, 1, 2, 6, 7, 8], [63]) := rfl
theorem kl35_7 : env.kl 35 7 = ([0, 1, 2, 6], [63]) := rfl
theorem kl35_9 : env.kl 35 9 = ([0, 1, 2, 6, 7, 8], [63]) := rfl
theorem kl36_1 : env.kl 36 1 = ([0, 1, 2, 3, 8], [53]) := rfl
theorem kl36_4 : env.kl 36 4 = ([0, 1, 2, 3, 8, 9], [53]) := rfl
theorem kl37_3 : env.kl 37 3 = ([0, 1, 4, 10, 11], [220]) := rfl
theorem kl37_9 : env.kl 37 9 = ([0, 10, 13], [220]) := rfl
theorem kl37_15 : env.kl 37 15 = ([0, 2, 4, 14, 15], [220]) := rfl
theorem kl37_21 : env.kl 37 21 = ([0, 14, 17], [220]) := rfl
theorem kl37_33 : env.kl 37 33 = ([0, 1, 2, 3, 4, 18, 19, 20, 21, 22], [220]) := rfl
theorem kl38_2 : env.kl 38 2 = ([0, 2, 4, 10, 11], [58]) := rfl
theorem kl39_1 : env.kl 39 1 = ([0, 1, 2, 3, 10], [38]) := rfl
theorem dp6_15 : env.dp 6 15 = [] := rfl
theorem dp6_22 : env.dp 6 22 = [] := rfl
theorem dp36_4 : env.dp 36 4 = [] := rfl
theorem dp36_6 : env.dp 36 6 = [] := rfl
theorem dp37_5 : env.dp 37 5 = [] := rfl
theorem dp37_11 : env.dp 37 11 = [] := rfl
theorem dp37_17 : env.dp 37 17 = [] := rfl
theorem dp37_23 : env.dp 37 23 = [] := rfl
theorem dp37_35 : env.dp 37 35 = [] := rfl
theorem dp39_3 : env.dp 39 3 = [] := rfl
end Go.Proofs.Ytfmbchnejelpkaa.Ev
