/- The types that the evaluator knows, and what each loop forgets: written by a program (gen.py) out of the translation. -/
import Derived.Test.YthpccjgpbcginaaDoorEvB
namespace Go.Proofs.YthpccjgpbcginaaDoor.Ev
open Go
abbrev Z2 : D := .s (.int .i64 0)
abbrev Z3 : D := .s (.int .i64 0)
abbrev Z4 : D := .s (.bool false)
abbrev Z5 : D := .s (.int .u8 0)
abbrev Z6 : D := .s (.int .u8 0)
abbrev Z7 : D := .cons Z2 (.cons Z3 (.cons Z4 (.cons Z6 (.nil))))
abbrev Z8 : D := .cons Z2 (.cons Z3 (.cons Z4 (.cons Z6 (.nil))))
abbrev Z9 : D := .s (.string ByteArray.empty)
abbrev Z10 : D := .s (.string ByteArray.empty)
abbrev Z11 : D := .s (.string ByteArray.empty)
abbrev Z12 : D := .s (.int .u64 0)
abbrev Z13 : D := .cons Z9 (.cons Z12 (.nil))
abbrev Z14 : D := .cons Z9 (.cons Z12 (.nil))
abbrev Z21 : D := .s (.int .i32 0)
abbrev Z22 : D := .s (.int .u64 0)
abbrev Z23 : D := .s (.slice none 0 0)
abbrev Z29 : D := .s (.int .u64 0)
abbrev Z34 : D := .s (.int .i64 0)
abbrev Z39 : D := .s (.int .u32 0)
abbrev Z41 : D := .s (.slice none 0 0)
abbrev Z42 : D := .arr 32 (.cell (.int .u8)) fun _ => Z5
abbrev Z43 : D := .arr 64 (.cell (.int .u8)) fun _ => Z5
abbrev Z51 : D := .s (.int .u8 0)
abbrev Z52 : D := .s (.int .u8 0)
abbrev Z55 : D := .s (.int .i32 0)
abbrev Z56 : D := .s (.int .i32 0)
def tyT : Nat → Option Ty
  | 2 => some ⟨.cell (.int .i64), Z2, .int .i64, 8, true⟩
  | 3 => some ⟨.cell (.int .i64), Z3, .int .i64, 8, true⟩
  | 4 => some ⟨.cell .bool, Z4, .bool, 1, true⟩
  | 5 => some ⟨.cell (.int .u8), Z5, .int .u8, 1, true⟩
  | 6 => some ⟨.cell (.int .u8), Z6, .int .u8, 1, true⟩
  | 7 => some ⟨.cons (.cell (.int .i64)) (.cons (.cell (.int .i64)) (.cons (.cell .bool) (.cons (.cell (.int .u8)) (.nil)))), Z7, .str [2, 3, 4, 6], 24, false⟩
  | 8 => some ⟨.cons (.cell (.int .i64)) (.cons (.cell (.int .i64)) (.cons (.cell .bool) (.cons (.cell (.int .u8)) (.nil)))), Z8, .str [2, 3, 4, 6], 24, false⟩
  | 9 => some ⟨.cell .string, Z9, .string, 16, true⟩
  | 10 => some ⟨.cell .string, Z10, .string, 16, true⟩
  | 11 => some ⟨.cell .string, Z11, .string, 16, true⟩
  | 12 => some ⟨.cell (.int .u64), Z12, .int .u64, 8, true⟩
  | 13 => some ⟨.cons (.cell .string) (.cons (.cell (.int .u64)) (.nil)), Z13, .str [9, 12], 24, false⟩
  | 14 => some ⟨.cons (.cell .string) (.cons (.cell (.int .u64)) (.nil)), Z14, .str [9, 12], 24, false⟩
  | 21 => some ⟨.cell (.int .i32), Z21, .int .i32, 4, true⟩
  | 22 => some ⟨.cell (.int .u64), Z22, .int .u64, 8, true⟩
  | 23 => some ⟨.cell .other, Z23, .slice 3, 24, false⟩
  | 29 => some ⟨.cell (.int .u64), Z29, .int .u64, 8, true⟩
  | 34 => some ⟨.cell (.int .i64), Z34, .int .i64, 8, true⟩
  | 39 => some ⟨.cell (.int .u32), Z39, .int .u32, 4, true⟩
  | 41 => some ⟨.cell .other, Z41, .slice 5, 24, false⟩
  | 42 => some ⟨.arr 32 (.cell (.int .u8)), Z42, .arr 32 5, 32, true⟩
  | 43 => some ⟨.arr 64 (.cell (.int .u8)), Z43, .arr 64 5, 64, true⟩
  | 51 => some ⟨.cell (.int .u8), Z51, .int .u8, 1, true⟩
  | 52 => some ⟨.cell (.int .u8), Z52, .int .u8, 1, true⟩
  | 55 => some ⟨.cell (.int .i32), Z55, .int .i32, 4, true⟩
  | 56 => some ⟨.cell (.int .i32), Z56, .int .i32, 4, true⟩
  | _ => none
def klT : Nat → Nat → List Nat × List Nat
  | 3, 6 => ([0, 1, 2, 7, 8, 50, 51], [17, 20])
  | 4, 5 => ([0, 1, 5, 6], [5, 18])
  | 5, 4 => ([0, 1, 5, 6], [5, 18])
  | 7, 2 => ([0, 4], [])
  | 9, 2 => ([0, 3], [])
  | 10, 3 => ([0, 1, 5], [])
  | 11, 2 => ([0, 1, 5], [])
  | 12, 3 => ([0, 3, 5], [3, 14])
  | 19, 5 => ([4, 5, 11], [26])
  | 20, 5 => ([3, 11, 12, 13], [9, 11, 22])
  | _, _ => ([], [])
def okT : List Nat := [2, 3, 4, 5, 6, 7, 8, 9, 10, 11, 12, 13, 14, 15, 16, 17, 18, 19, 20, 21, 22, 23, 24, 26, 27, 29, 30, 31]
def glT : Nat → Nat → List Nat × List Nat
  | _, _ => ([], [])
def dpT : Nat → Nat → List (Nat × Nat)
  | _, _ => []
def env : Env := { ty := tyT, kl := klT, ok := fun f => okT.contains f, dp := dpT, gl := glT }
theorem ty2 : env.ty 2 = some ⟨.cell (.int .i64), Z2, .int .i64, 8, true⟩ := rfl
theorem ty3 : env.ty 3 = some ⟨.cell (.int .i64), Z3, .int .i64, 8, true⟩ := rfl
theorem ty4 : env.ty 4 = some ⟨.cell .bool, Z4, .bool, 1, true⟩ := rfl
theorem ty5 : env.ty 5 = some ⟨.cell (.int .u8), Z5, .int .u8, 1, true⟩ := rfl
theorem ty6 : env.ty 6 = some ⟨.cell (.int .u8), Z6, .int .u8, 1, true⟩ := rfl
theorem ty7 : env.ty 7 = some ⟨.cons (.cell (.int .i64)) (.cons (.cell (.int .i64)) (.cons (.cell .bool) (.cons (.cell (.int .u8)) (.nil)))), Z7, .str [2, 3, 4, 6], 24, false⟩ := rfl
theorem ty8 : env.ty 8 = some ⟨.cons (.cell (.int .i64)) (.cons (.cell (.int .i64)) (.cons (.cell .bool) (.cons (.cell (.int .u8)) (.nil)))), Z8, .str [2, 3, 4, 6], 24, false⟩ := rfl
theorem ty9 : env.ty 9 = some ⟨.cell .string, Z9, .string, 16, true⟩ := rfl
theorem ty10 : env.ty 10 = some ⟨.cell .string, Z10, .string, 16, true⟩ := rfl
theorem ty11 : env.ty 11 = some ⟨.cell .string, Z11, .string, 16, true⟩ := rfl
theorem ty12 : env.ty 12 = some ⟨.cell (.int .u64), Z12, .int .u64, 8, true⟩ := rfl
theorem ty13 : env.ty 13 = some ⟨.cons (.cell .string) (.cons (.cell (.int .u64)) (.nil)), Z13, .str [9, 12], 24, false⟩ := rfl
theorem ty14 : env.ty 14 = some ⟨.cons (.cell .string) (.cons (.cell (.int .u64)) (.nil)), Z14, .str [9, 12], 24, false⟩ := rfl
theorem ty21 : env.ty 21 = some ⟨.cell (.int .i32), Z21, .int .i32, 4, true⟩ := rfl
theorem ty22 : env.ty 22 = some ⟨.cell (.int .u64), Z22, .int .u64, 8, true⟩ := rfl
theorem ty23 : env.ty 23 = some ⟨.cell .other, Z23, .slice 3, 24, false⟩ := rfl
theorem ty29 : env.ty 29 = some ⟨.cell (.int .u64), Z29, .int .u64, 8, true⟩ := rfl
theorem ty34 : env.ty 34 = some ⟨.cell (.int .i64), Z34, .int .i64, 8, true⟩ := rfl
theorem ty39 : env.ty 39 = some ⟨.cell (.int .u32), Z39, .int .u32, 4, true⟩ := rfl
theorem ty41 : env.ty 41 = some ⟨.cell .other, Z41, .slice 5, 24, false⟩ := rfl
theorem ty42 : env.ty 42 = some ⟨.arr 32 (.cell (.int .u8)), Z42, .arr 32 5, 32, true⟩ := rfl
theorem ty43 : env.ty 43 = some ⟨.arr 64 (.cell (.int .u8)), Z43, .arr 64 5, 64, true⟩ := rfl
theorem ty51 : env.ty 51 = some ⟨.cell (.int .u8), Z51, .int .u8, 1, true⟩ := rfl
theorem ty52 : env.ty 52 = some ⟨.cell (.int .u8), Z52, .int .u8, 1, true⟩ := rfl
theorem ty55 : env.ty 55 = some ⟨.cell (.int .i32), Z55, .int .i32, 4, true⟩ := rfl
theorem ty56 : env.ty 56 = some ⟨.cell (.int .i32), Z56, .int .i32, 4, true⟩ := rfl
theorem kl3_6 : env.kl 3 6 = ([0, 1, 2, 7, 8, 50, 51], [17, 20]) := rfl
theorem kl4_5 : env.kl 4 5 = ([0, 1, 5, 6], [5, 18]) := rfl
theorem kl5_4 : env.kl 5 4 = ([0, 1, 5, 6], [5, 18]) := rfl
theorem kl7_2 : env.kl 7 2 = ([0, 4], []) := rfl
theorem kl9_2 : env.kl 9 2 = ([0, 3], []) := rfl
theorem kl10_3 : env.kl 10 3 = ([0, 1, 5], []) := rfl
theorem kl11_2 : env.kl 11 2 = ([0, 1, 5], []) := rfl
theorem kl12_3 : env.kl 12 3 = ([0, 3, 5], [3, 14]) := rfl
theorem kl19_5 : env.kl 19 5 = ([4, 5, 11], [26]) := rfl
theorem kl20_5 : env.kl 20 5 = ([3, 11, 12, 13], [9, 11, 22]) := rfl
theorem dp3_8 : env.dp 3 8 = [] := rfl
theorem dp3_12 : env.dp 3 12 = [] := rfl
theorem dp30_1 : env.dp 30 1 = [] := rfl
end Go.Proofs.YthpccjgpbcginaaDoor.Ev
