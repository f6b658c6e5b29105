/- The types that the evaluator knows, and what each loop forgets: written by a program (gen.py) out of the translation. -/
import Derived.Test.YtfbaikkadndckaaEvB
namespace Go.Proofs.Ytfbaikkadndckaa.Ev
open Go
abbrev Z2 : D := .s (.int .i64 0)
abbrev Z3 : D := .s (.int .i64 0)
abbrev Z4 : D := .s (.bool false)
abbrev Z5 : D := .s (.int .u8 0)
abbrev Z6 : D := .s (.int .u8 0)
abbrev Z7 : D := .cons Z2 (.cons Z3 (.cons Z4 (.cons Z6 (.nil))))
abbrev Z8 : D := .cons Z2 (.cons Z3 (.cons Z4 (.cons Z6 (.nil))))
abbrev Z9 : D := .s (.string ByteArray.empty)
abbrev Z10 : D := .s (.string ByteArray.empty)
abbrev Z11 : D := .s (.string ByteArray.empty)
abbrev Z12 : D := .s (.int .u64 0)
abbrev Z13 : D := .cons Z9 (.cons Z12 (.nil))
abbrev Z14 : D := .cons Z9 (.cons Z12 (.nil))
abbrev Z21 : D := .s (.int .i32 0)
abbrev Z22 : D := .s (.int .u32 0)
abbrev Z23 : D := .arr 16 (.cell (.int .u32)) fun _ => Z22
abbrev Z24 : D := .cons Z3 (.cons Z23 (.nil))
abbrev Z25 : D := .cons Z3 (.cons Z23 (.nil))
abbrev Z26 : D := .cons Z22 (.cons Z3 (.nil))
abbrev Z27 : D := .cons Z22 (.cons Z3 (.nil))
abbrev Z28 : D := .arr 16 (.cons (.cell (.int .u32)) (.cons (.cell (.int .i64)) (.nil))) fun _ => Z27
abbrev Z29 : D := .arr 16 (.cons (.cell (.int .u32)) (.cons (.cell (.int .i64)) (.nil))) fun _ => Z27
abbrev Z30 : D := .arr 16 (.arr 16 (.cons (.cell (.int .u32)) (.cons (.cell (.int .i64)) (.nil)))) fun _ => Z29
abbrev Z31 : D := .cons Z3 (.cons Z25 (.cons Z30 (.nil)))
abbrev Z32 : D := .cons Z3 (.cons Z25 (.cons Z30 (.nil)))
abbrev Z33 : D := .s (.int .u64 0)
abbrev Z34 : D := .cons Z22 (.cons Z3 (.cons Z3 (.nil)))
abbrev Z35 : D := .cons Z22 (.cons Z3 (.cons Z3 (.nil)))
abbrev Z36 : D := .arr 16 (.cons (.cell (.int .u32)) (.cons (.cell (.int .i64)) (.cons (.cell (.int .i64)) (.nil)))) fun _ => Z35
abbrev Z37 : D := .arr 16 (.cons (.cell (.int .u32)) (.cons (.cell (.int .i64)) (.cons (.cell (.int .i64)) (.nil)))) fun _ => Z35
abbrev Z39 : D := .s (.slice none 0 0)
abbrev Z46 : D := .cons Z37 (.cons Z3 (.cons Z3 (.cons Z3 (.nil))))
abbrev Z47 : D := .cons Z37 (.cons Z3 (.cons Z3 (.cons Z3 (.nil))))
abbrev Z64 : D := .s (.slice none 0 0)
abbrev Z67 : D := .cons Z3 (.cons Z3 (.cons Z22 (.cons Z3 (.nil))))
abbrev Z68 : D := .cons Z3 (.cons Z3 (.cons Z22 (.cons Z3 (.nil))))
abbrev Z73 : D := .arr 3 (.cell (.int .i64)) fun _ => Z3
abbrev Z78 : D := .s (.slice none 0 0)
abbrev Z80 : D := .cons Z3 (.cons Z22 (.nil))
abbrev Z81 : D := .cons Z3 (.cons Z22 (.nil))
abbrev Z86 : D := .s (.slice none 0 0)
abbrev Z87 : D := .arr 16 (.cell (.int .i64)) fun _ => Z3
abbrev Z88 : D := .cons Z22 (.cons Z22 (.nil))
abbrev Z89 : D := .cons Z22 (.cons Z22 (.nil))
abbrev Z90 : D := .cons Z89 (.cons Z89 (.nil))
abbrev Z91 : D := .cons Z89 (.cons Z89 (.nil))
abbrev Z92 : D := .arr 16 (.cons (.cons (.cell (.int .u32)) (.cons (.cell (.int .u32)) (.nil))) (.cons (.cons (.cell (.int .u32)) (.cons (.cell (.int .u32)) (.nil))) (.nil))) fun _ => Z91
abbrev Z93 : D := .cons Z3 (.cons Z87 (.cons Z92 (.nil)))
abbrev Z94 : D := .cons Z3 (.cons Z87 (.cons Z92 (.nil)))
abbrev Z95 : D := .cons Z87 (.cons Z94 (.nil))
abbrev Z96 : D := .cons Z87 (.cons Z94 (.nil))
abbrev Z98 : D := .cons Z3 (.cons Z87 (.nil))
abbrev Z99 : D := .cons Z3 (.cons Z87 (.nil))
abbrev Z100 : D := .cons Z32 (.cons Z37 (.cons Z23 (.cons Z99 (.cons Z87 (.cons Z87 (.cons Z87 (.nil)))))))
abbrev Z101 : D := .cons Z32 (.cons Z37 (.cons Z23 (.cons Z99 (.cons Z87 (.cons Z87 (.cons Z87 (.nil)))))))
abbrev Z103 : D := .cons Z3 (.cons Z3 (.cons Z22 (.cons Z64 (.nil))))
abbrev Z104 : D := .cons Z3 (.cons Z3 (.cons Z22 (.cons Z64 (.nil))))
abbrev Z105 : D := .s (.int .i64 0)
abbrev Z109 : D := .s (.slice none 0 0)
abbrev Z110 : D := .s (.slice none 0 0)
abbrev Z111 : D := .cons Z3 (.cons Z110 (.nil))
abbrev Z112 : D := .cons Z3 (.cons Z110 (.nil))
abbrev Z113 : D := .cons Z3 (.cons Z109 (.cons Z112 (.cons Z64 (.nil))))
abbrev Z114 : D := .cons Z3 (.cons Z109 (.cons Z112 (.cons Z64 (.nil))))
abbrev Z115 : D := .cons Z3 (.cons Z89 (.cons Z89 (.cons Z3 (.cons Z3 (.cons Z114 (.nil))))))
abbrev Z116 : D := .cons Z3 (.cons Z89 (.cons Z89 (.cons Z3 (.cons Z3 (.cons Z114 (.nil))))))
abbrev Z117 : D := .arr 16 (.cons (.cell (.int .i64)) (.cons (.cons (.cell (.int .u32)) (.cons (.cell (.int .u32)) (.nil))) (.cons (.cons (.cell (.int .u32)) (.cons (.cell (.int .u32)) (.nil))) (.cons (.cell (.int .i64)) (.cons (.cell (.int .i64)) (.cons (.cons (.cell (.int .i64)) (.cons (.cell .other) (.cons (.cons (.cell (.int .i64)) (.cons (.cell .other) (.nil))) (.cons (.cell .other) (.nil))))) (.nil))))))) fun _ => Z116
abbrev Z122 : D := .s (.slice none 0 0)
abbrev Z126 : D := .arr 2 (.cell (.int .i64)) fun _ => Z3
abbrev Z148 : D := .s (.int .u64 0)
abbrev Z185 : D := .s (.int .i64 0)
abbrev Z192 : D := .s (.slice none 0 0)
abbrev Z199 : D := .s (.int .u64 0)
abbrev Z215 : D := .s (.int .u8 0)
abbrev Z216 : D := .s (.int .u8 0)
abbrev Z219 : D := .s (.int .i32 0)
abbrev Z220 : D := .s (.int .i32 0)
abbrev Z223 : D := .cons Z3 (.cons Z9 (.cons Z3 (.cons Z3 (.nil))))
abbrev Z224 : D := .cons Z3 (.cons Z9 (.cons Z3 (.cons Z3 (.nil))))
abbrev Z225 : D := .cons Z3 (.cons Z91 (.cons Z3 (.cons Z4 (.cons Z64 (.nil)))))
abbrev Z226 : D := .cons Z3 (.cons Z91 (.cons Z3 (.cons Z4 (.cons Z64 (.nil)))))
def tyT : Nat → Option Ty
  | 2 => some ⟨.cell (.int .i64), Z2, .int .i64, 8, true⟩
  | 3 => some ⟨.cell (.int .i64), Z3, .int .i64, 8, true⟩
  | 4 => some ⟨.cell .bool, Z4, .bool, 1, true⟩
  | 5 => some ⟨.cell (.int .u8), Z5, .int .u8, 1, true⟩
  | 6 => some ⟨.cell (.int .u8), Z6, .int .u8, 1, true⟩
  | 7 => some ⟨.cons (.cell (.int .i64)) (.cons (.cell (.int .i64)) (.cons (.cell .bool) (.cons (.cell (.int .u8)) (.nil)))), Z7, .str [2, 3, 4, 6], 24, false⟩
  | 8 => some ⟨.cons (.cell (.int .i64)) (.cons (.cell (.int .i64)) (.cons (.cell .bool) (.cons (.cell (.int .u8)) (.nil)))), Z8, .str [2, 3, 4, 6], 24, false⟩
  | 9 => some ⟨.cell .string, Z9, .string, 16, true⟩
  | 10 => some ⟨.cell .string, Z10, .string, 16, true⟩
  | 11 => some ⟨.cell .string, Z11, .string, 16, true⟩
  | 12 => some ⟨.cell (.int .u64), Z12, .int .u64, 8, true⟩
  | 13 => some ⟨.cons (.cell .string) (.cons (.cell (.int .u64)) (.nil)), Z13, .str [9, 12], 24, false⟩
  | 14 => some ⟨.cons (.cell .string) (.cons (.cell (.int .u64)) (.nil)), Z14, .str [9, 12], 24, false⟩
  | 21 => some ⟨.cell (.int .i32), Z21, .int .i32, 4, true⟩
  | 22 => some ⟨.cell (.int .u32), Z22, .int .u32, 4, true⟩
  | 23 => some ⟨.arr 16 (.cell (.int .u32)), Z23, .arr 16 22, 64, true⟩
  | 24 => some ⟨.cons (.cell (.int .i64)) (.cons (.arr 16 (.cell (.int .u32))) (.nil)), Z24, .str [3, 23], 72, true⟩
  | 25 => some ⟨.cons (.cell (.int .i64)) (.cons (.arr 16 (.cell (.int .u32))) (.nil)), Z25, .str [3, 23], 72, true⟩
  | 26 => some ⟨.cons (.cell (.int .u32)) (.cons (.cell (.int .i64)) (.nil)), Z26, .str [22, 3], 16, true⟩
  | 27 => some ⟨.cons (.cell (.int .u32)) (.cons (.cell (.int .i64)) (.nil)), Z27, .str [22, 3], 16, true⟩
  | 28 => some ⟨.arr 16 (.cons (.cell (.int .u32)) (.cons (.cell (.int .i64)) (.nil))), Z28, .arr 16 27, 256, true⟩
  | 29 => some ⟨.arr 16 (.cons (.cell (.int .u32)) (.cons (.cell (.int .i64)) (.nil))), Z29, .arr 16 27, 256, true⟩
  | 30 => some ⟨.arr 16 (.arr 16 (.cons (.cell (.int .u32)) (.cons (.cell (.int .i64)) (.nil)))), Z30, .arr 16 29, 4096, true⟩
  | 31 => some ⟨.cons (.cell (.int .i64)) (.cons (.cons (.cell (.int .i64)) (.cons (.arr 16 (.cell (.int .u32))) (.nil))) (.cons (.arr 16 (.arr 16 (.cons (.cell (.int .u32)) (.cons (.cell (.int .i64)) (.nil))))) (.nil))), Z31, .str [3, 25, 30], 4176, true⟩
  | 32 => some ⟨.cons (.cell (.int .i64)) (.cons (.cons (.cell (.int .i64)) (.cons (.arr 16 (.cell (.int .u32))) (.nil))) (.cons (.arr 16 (.arr 16 (.cons (.cell (.int .u32)) (.cons (.cell (.int .i64)) (.nil))))) (.nil))), Z32, .str [3, 25, 30], 4176, true⟩
  | 33 => some ⟨.cell (.int .u64), Z33, .int .u64, 8, true⟩
  | 34 => some ⟨.cons (.cell (.int .u32)) (.cons (.cell (.int .i64)) (.cons (.cell (.int .i64)) (.nil))), Z34, .str [22, 3, 3], 24, true⟩
  | 35 => some ⟨.cons (.cell (.int .u32)) (.cons (.cell (.int .i64)) (.cons (.cell (.int .i64)) (.nil))), Z35, .str [22, 3, 3], 24, true⟩
  | 36 => some ⟨.arr 16 (.cons (.cell (.int .u32)) (.cons (.cell (.int .i64)) (.cons (.cell (.int .i64)) (.nil)))), Z36, .arr 16 35, 384, true⟩
  | 37 => some ⟨.arr 16 (.cons (.cell (.int .u32)) (.cons (.cell (.int .i64)) (.cons (.cell (.int .i64)) (.nil)))), Z37, .arr 16 35, 384, true⟩
  | 39 => some ⟨.cell .other, Z39, .slice 3, 24, false⟩
  | 46 => some ⟨.cons (.arr 16 (.cons (.cell (.int .u32)) (.cons (.cell (.int .i64)) (.cons (.cell (.int .i64)) (.nil))))) (.cons (.cell (.int .i64)) (.cons (.cell (.int .i64)) (.cons (.cell (.int .i64)) (.nil)))), Z46, .str [37, 3, 3, 3], 408, true⟩
  | 47 => some ⟨.cons (.arr 16 (.cons (.cell (.int .u32)) (.cons (.cell (.int .i64)) (.cons (.cell (.int .i64)) (.nil))))) (.cons (.cell (.int .i64)) (.cons (.cell (.int .i64)) (.cons (.cell (.int .i64)) (.nil)))), Z47, .str [37, 3, 3, 3], 408, true⟩
  | 64 => some ⟨.cell .other, Z64, .slice 68, 24, false⟩
  | 67 => some ⟨.cons (.cell (.int .i64)) (.cons (.cell (.int .i64)) (.cons (.cell (.int .u32)) (.cons (.cell (.int .i64)) (.nil)))), Z67, .str [3, 3, 22, 3], 32, true⟩
  | 68 => some ⟨.cons (.cell (.int .i64)) (.cons (.cell (.int .i64)) (.cons (.cell (.int .u32)) (.cons (.cell (.int .i64)) (.nil)))), Z68, .str [3, 3, 22, 3], 32, true⟩
  | 73 => some ⟨.arr 3 (.cell (.int .i64)), Z73, .arr 3 3, 24, true⟩
  | 78 => some ⟨.cell .other, Z78, .slice 81, 24, false⟩
  | 80 => some ⟨.cons (.cell (.int .i64)) (.cons (.cell (.int .u32)) (.nil)), Z80, .str [3, 22], 16, true⟩
  | 81 => some ⟨.cons (.cell (.int .i64)) (.cons (.cell (.int .u32)) (.nil)), Z81, .str [3, 22], 16, true⟩
  | 86 => some ⟨.cell .other, Z86, .slice 104, 24, false⟩
  | 87 => some ⟨.arr 16 (.cell (.int .i64)), Z87, .arr 16 3, 128, true⟩
  | 88 => some ⟨.cons (.cell (.int .u32)) (.cons (.cell (.int .u32)) (.nil)), Z88, .str [22, 22], 8, true⟩
  | 89 => some ⟨.cons (.cell (.int .u32)) (.cons (.cell (.int .u32)) (.nil)), Z89, .str [22, 22], 8, true⟩
  | 90 => some ⟨.cons (.cons (.cell (.int .u32)) (.cons (.cell (.int .u32)) (.nil))) (.cons (.cons (.cell (.int .u32)) (.cons (.cell (.int .u32)) (.nil))) (.nil)), Z90, .str [89, 89], 16, true⟩
  | 91 => some ⟨.cons (.cons (.cell (.int .u32)) (.cons (.cell (.int .u32)) (.nil))) (.cons (.cons (.cell (.int .u32)) (.cons (.cell (.int .u32)) (.nil))) (.nil)), Z91, .str [89, 89], 16, true⟩
  | 92 => some ⟨.arr 16 (.cons (.cons (.cell (.int .u32)) (.cons (.cell (.int .u32)) (.nil))) (.cons (.cons (.cell (.int .u32)) (.cons (.cell (.int .u32)) (.nil))) (.nil))), Z92, .arr 16 91, 256, true⟩
  | 93 => some ⟨.cons (.cell (.int .i64)) (.cons (.arr 16 (.cell (.int .i64))) (.cons (.arr 16 (.cons (.cons (.cell (.int .u32)) (.cons (.cell (.int .u32)) (.nil))) (.cons (.cons (.cell (.int .u32)) (.cons (.cell (.int .u32)) (.nil))) (.nil)))) (.nil))), Z93, .str [3, 87, 92], 392, true⟩
  | 94 => some ⟨.cons (.cell (.int .i64)) (.cons (.arr 16 (.cell (.int .i64))) (.cons (.arr 16 (.cons (.cons (.cell (.int .u32)) (.cons (.cell (.int .u32)) (.nil))) (.cons (.cons (.cell (.int .u32)) (.cons (.cell (.int .u32)) (.nil))) (.nil)))) (.nil))), Z94, .str [3, 87, 92], 392, true⟩
  | 95 => some ⟨.cons (.arr 16 (.cell (.int .i64))) (.cons (.cons (.cell (.int .i64)) (.cons (.arr 16 (.cell (.int .i64))) (.cons (.arr 16 (.cons (.cons (.cell (.int .u32)) (.cons (.cell (.int .u32)) (.nil))) (.cons (.cons (.cell (.int .u32)) (.cons (.cell (.int .u32)) (.nil))) (.nil)))) (.nil)))) (.nil)), Z95, .str [87, 94], 520, true⟩
  | 96 => some ⟨.cons (.arr 16 (.cell (.int .i64))) (.cons (.cons (.cell (.int .i64)) (.cons (.arr 16 (.cell (.int .i64))) (.cons (.arr 16 (.cons (.cons (.cell (.int .u32)) (.cons (.cell (.int .u32)) (.nil))) (.cons (.cons (.cell (.int .u32)) (.cons (.cell (.int .u32)) (.nil))) (.nil)))) (.nil)))) (.nil)), Z96, .str [87, 94], 520, true⟩
  | 98 => some ⟨.cons (.cell (.int .i64)) (.cons (.arr 16 (.cell (.int .i64))) (.nil)), Z98, .str [3, 87], 136, true⟩
  | 99 => some ⟨.cons (.cell (.int .i64)) (.cons (.arr 16 (.cell (.int .i64))) (.nil)), Z99, .str [3, 87], 136, true⟩
  | 100 => some ⟨.cons (.cons (.cell (.int .i64)) (.cons (.cons (.cell (.int .i64)) (.cons (.arr 16 (.cell (.int .u32))) (.nil))) (.cons (.arr 16 (.arr 16 (.cons (.cell (.int .u32)) (.cons (.cell (.int .i64)) (.nil))))) (.nil)))) (.cons (.arr 16 (.cons (.cell (.int .u32)) (.cons (.cell (.int .i64)) (.cons (.cell (.int .i64)) (.nil))))) (.cons (.arr 16 (.cell (.int .u32))) (.cons (.cons (.cell (.int .i64)) (.cons (.arr 16 (.cell (.int .i64))) (.nil))) (.cons (.arr 16 (.cell (.int .i64))) (.cons (.arr 16 (.cell (.int .i64))) (.cons (.arr 16 (.cell (.int .i64))) (.nil))))))), Z100, .str [32, 37, 23, 99, 87, 87, 87], 5144, true⟩
  | 101 => some ⟨.cons (.cons (.cell (.int .i64)) (.cons (.cons (.cell (.int .i64)) (.cons (.arr 16 (.cell (.int .u32))) (.nil))) (.cons (.arr 16 (.arr 16 (.cons (.cell (.int .u32)) (.cons (.cell (.int .i64)) (.nil))))) (.nil)))) (.cons (.arr 16 (.cons (.cell (.int .u32)) (.cons (.cell (.int .i64)) (.cons (.cell (.int .i64)) (.nil))))) (.cons (.arr 16 (.cell (.int .u32))) (.cons (.cons (.cell (.int .i64)) (.cons (.arr 16 (.cell (.int .i64))) (.nil))) (.cons (.arr 16 (.cell (.int .i64))) (.cons (.arr 16 (.cell (.int .i64))) (.cons (.arr 16 (.cell (.int .i64))) (.nil))))))), Z101, .str [32, 37, 23, 99, 87, 87, 87], 5144, true⟩
  | 103 => some ⟨.cons (.cell (.int .i64)) (.cons (.cell (.int .i64)) (.cons (.cell (.int .u32)) (.cons (.cell .other) (.nil)))), Z103, .str [3, 3, 22, 64], 48, false⟩
  | 104 => some ⟨.cons (.cell (.int .i64)) (.cons (.cell (.int .i64)) (.cons (.cell (.int .u32)) (.cons (.cell .other) (.nil)))), Z104, .str [3, 3, 22, 64], 48, false⟩
  | 105 => some ⟨.cell (.int .i64), Z105, .int .i64, 8, true⟩
  | 109 => some ⟨.cell .other, Z109, .slice 224, 24, false⟩
  | 110 => some ⟨.cell .other, Z110, .slice 226, 24, false⟩
  | 111 => some ⟨.cons (.cell (.int .i64)) (.cons (.cell .other) (.nil)), Z111, .str [3, 110], 32, false⟩
  | 112 => some ⟨.cons (.cell (.int .i64)) (.cons (.cell .other) (.nil)), Z112, .str [3, 110], 32, false⟩
  | 113 => some ⟨.cons (.cell (.int .i64)) (.cons (.cell .other) (.cons (.cons (.cell (.int .i64)) (.cons (.cell .other) (.nil))) (.cons (.cell .other) (.nil)))), Z113, .str [3, 109, 112, 64], 88, false⟩
  | 114 => some ⟨.cons (.cell (.int .i64)) (.cons (.cell .other) (.cons (.cons (.cell (.int .i64)) (.cons (.cell .other) (.nil))) (.cons (.cell .other) (.nil)))), Z114, .str [3, 109, 112, 64], 88, false⟩
  | 115 => some ⟨.cons (.cell (.int .i64)) (.cons (.cons (.cell (.int .u32)) (.cons (.cell (.int .u32)) (.nil))) (.cons (.cons (.cell (.int .u32)) (.cons (.cell (.int .u32)) (.nil))) (.cons (.cell (.int .i64)) (.cons (.cell (.int .i64)) (.cons (.cons (.cell (.int .i64)) (.cons (.cell .other) (.cons (.cons (.cell (.int .i64)) (.cons (.cell .other) (.nil))) (.cons (.cell .other) (.nil))))) (.nil)))))), Z115, .str [3, 89, 89, 3, 3, 114], 128, false⟩
  | 116 => some ⟨.cons (.cell (.int .i64)) (.cons (.cons (.cell (.int .u32)) (.cons (.cell (.int .u32)) (.nil))) (.cons (.cons (.cell (.int .u32)) (.cons (.cell (.int .u32)) (.nil))) (.cons (.cell (.int .i64)) (.cons (.cell (.int .i64)) (.cons (.cons (.cell (.int .i64)) (.cons (.cell .other) (.cons (.cons (.cell (.int .i64)) (.cons (.cell .other) (.nil))) (.cons (.cell .other) (.nil))))) (.nil)))))), Z116, .str [3, 89, 89, 3, 3, 114], 128, false⟩
  | 117 => some ⟨.arr 16 (.cons (.cell (.int .i64)) (.cons (.cons (.cell (.int .u32)) (.cons (.cell (.int .u32)) (.nil))) (.cons (.cons (.cell (.int .u32)) (.cons (.cell (.int .u32)) (.nil))) (.cons (.cell (.int .i64)) (.cons (.cell (.int .i64)) (.cons (.cons (.cell (.int .i64)) (.cons (.cell .other) (.cons (.cons (.cell (.int .i64)) (.cons (.cell .other) (.nil))) (.cons (.cell .other) (.nil))))) (.nil))))))), Z117, .arr 16 116, 2048, false⟩
  | 122 => some ⟨.cell .other, Z122, .slice 126, 24, false⟩
  | 126 => some ⟨.arr 2 (.cell (.int .i64)), Z126, .arr 2 3, 16, true⟩
  | 148 => some ⟨.cell (.int .u64), Z148, .int .u64, 8, true⟩
  | 185 => some ⟨.cell (.int .i64), Z185, .int .i64, 8, true⟩
  | 192 => some ⟨.cell .other, Z192, .slice 5, 24, false⟩
  | 199 => some ⟨.cell (.int .u64), Z199, .int .u64, 8, true⟩
  | 215 => some ⟨.cell (.int .u8), Z215, .int .u8, 1, true⟩
  | 216 => some ⟨.cell (.int .u8), Z216, .int .u8, 1, true⟩
  | 219 => some ⟨.cell (.int .i32), Z219, .int .i32, 4, true⟩
  | 220 => some ⟨.cell (.int .i32), Z220, .int .i32, 4, true⟩
  | 223 => some ⟨.cons (.cell (.int .i64)) (.cons (.cell .string) (.cons (.cell (.int .i64)) (.cons (.cell (.int .i64)) (.nil)))), Z223, .str [3, 9, 3, 3], 40, true⟩
  | 224 => some ⟨.cons (.cell (.int .i64)) (.cons (.cell .string) (.cons (.cell (.int .i64)) (.cons (.cell (.int .i64)) (.nil)))), Z224, .str [3, 9, 3, 3], 40, true⟩
  | 225 => some ⟨.cons (.cell (.int .i64)) (.cons (.cons (.cons (.cell (.int .u32)) (.cons (.cell (.int .u32)) (.nil))) (.cons (.cons (.cell (.int .u32)) (.cons (.cell (.int .u32)) (.nil))) (.nil))) (.cons (.cell (.int .i64)) (.cons (.cell .bool) (.cons (.cell .other) (.nil))))), Z225, .str [3, 91, 3, 4, 64], 64, false⟩
  | 226 => some ⟨.cons (.cell (.int .i64)) (.cons (.cons (.cons (.cell (.int .u32)) (.cons (.cell (.int .u32)) (.nil))) (.cons (.cons (.cell (.int .u32)) (.cons (.cell (.int .u32)) (.nil))) (.nil))) (.cons (.cell (.int .i64)) (.cons (.cell .bool) (.cons (.cell .other) (.nil))))), Z226, .str [3, 91, 3, 4, 64], 64, false⟩
  | _ => none
def klT : Nat → Nat → List Nat × List Nat
  | 3, 4 => ([1, 2, 5, 22, 23, 24], [2, 5, 22])
  | 3, 7 => ([1, 2, 5, 7, 22, 23, 24, 28], [2, 5, 22])
  | 5, 5 => ([3, 4, 7, 8, 23], [3, 4, 7, 8])
  | 6, 10 => ([3, 4, 77, 78], [3, 4])
  | 7, 7 => ([1, 2, 5, 35, 36], [2, 5, 17])
  | 8, 5 => ([3, 4, 7, 20, 21, 22], [3, 4, 19])
  | 9, 7 => ([3, 5, 7, 54], [3, 5, 7])
  | 10, 7 => ([2, 3, 7, 8, 58, 59], [3, 19, 22])
  | 10, 15 => ([3, 14, 127], [3, 14])
  | 11, 5 => ([4, 7, 23, 24, 25], [4, 7])
  | 11, 12 => ([4, 7, 10, 11, 41], [4, 7, 10])
  | 11, 20 => ([7, 10, 11, 66], [7, 10])
  | 12, 8 => ([7, 8, 9, 10, 58, 59], [7, 8, 25, 28])
  | 12, 15 => ([7, 8, 9, 12, 73, 74], [7, 8, 25, 73])
  | 13, 5 => ([5, 19, 20, 21], [5])
  | 14, 5 => ([5, 20, 21, 22], [5])
  | 14, 9 => ([5, 7, 8, 20, 21, 22, 33], [5, 7, 8])
  | 15, 3 => ([1, 2, 4, 5, 11], [2, 4, 5])
  | 20, 3 => ([0, 2, 3, 5], [2, 3])
  | 21, 3 => ([0, 2, 3, 5], [2, 3])
  | 24, 3 => ([3, 5, 7, 10, 11], [3, 5, 29])
  | 25, 3 => ([3, 5, 7, 10, 11], [3, 5, 29])
  | 26, 5 => ([2, 4, 5, 13], [2, 4, 5])
  | 27, 2 => ([2, 4, 7, 8], [2, 4])
  | 28, 2 => ([2, 4, 8, 9, 10], [2, 4, 8])
  | 29, 2 => ([2, 4, 8, 9, 10], [2, 4, 8])
  | 33, 3 => ([2, 3, 4, 7, 12, 13, 14], [3, 4, 12, 31])
  | 34, 3 => ([2, 3, 4, 7, 12, 13, 14], [3, 4, 12, 31])
  | 37, 3 => ([2, 3, 6, 7], [2, 3])
  | 42, 3 => ([1, 2, 3, 9, 15, 16], [9])
  | 43, 3 => ([2, 3, 5, 7], [2, 3, 19])
  | 45, 2 => ([2, 4, 7, 8, 9], [2, 4])
  | 47, 5 => ([1, 2, 4, 5, 13], [2, 4, 5])
  | 47, 7 => ([1, 2, 4, 5, 13, 15], [2, 4, 5])
  | 48, 5 => ([1, 2, 4, 5, 17], [2, 4, 5])
  | 48, 7 => ([1, 2, 4, 5, 17, 19, 20], [2, 4, 5])
  | 49, 3 => ([1, 2, 5, 10, 11, 12], [2, 10, 26])
  | 50, 3 => ([1, 2, 5, 10, 11, 12], [2, 10, 30])
  | 51, 6 => ([1, 2, 3, 7, 8, 23, 24, 25], [3, 7, 8, 23, 56])
  | 51, 15 => ([7, 8, 13, 58, 59, 60], [7, 8, 56, 79])
  | 51, 18 => ([7, 8, 13, 15, 58, 59, 60, 64, 65, 66], [7, 8, 56, 79])
  | 52, 3 => ([1, 2, 3, 7, 20, 21, 22], [3, 20, 91])
  | 52, 9 => ([1, 2, 3, 7, 9, 11, 20, 21, 22, 56, 57, 58], [3, 20, 38, 56, 91])
  | 53, 5 => ([1, 2, 5, 21, 22, 23], [2, 5, 21, 57])
  | 54, 5 => ([1, 2, 5, 24, 25, 26], [2, 5, 24, 84, 88, 92, 97])
  | 54, 12 => ([1, 2, 5, 10, 11, 24, 25, 26], [2, 5, 10, 24, 84, 88, 92, 97])
  | 57, 3 => ([1, 3, 5], [1, 15])
  | 58, 3 => ([1, 3, 5], [1, 15])
  | 59, 2 => ([0, 5, 6, 7], [])
  | 61, 4 => ([2, 3, 13], [2, 3])
  | 63, 4 => ([3, 4, 5, 6, 17, 18], [3, 4, 6])
  | 63, 10 => ([4, 5, 6, 32, 33], [3, 4, 6])
  | 64, 3 => ([1, 2, 3, 6], [1, 2, 3])
  | 67, 3 => ([2, 5, 9, 10], [2, 5, 25])
  | 68, 3 => ([2, 3, 5, 7], [2, 3, 5, 27])
  | 69, 2 => ([2, 4, 7, 8, 9], [2, 4])
  | 70, 2 => ([2, 4, 7, 8, 9], [2, 4])
  | 71, 3 => ([3, 7, 8], [24])
  | 72, 3 => ([3, 7, 8], [24])
  | 73, 3 => ([1, 2, 3, 5], [1, 2, 3])
  | 74, 3 => ([1, 2, 3, 5], [1, 2, 3])
  | 75, 2 => ([0, 5, 6, 7], [])
  | 77, 4 => ([1, 24, 25], [1])
  | 79, 3 => ([0, 2, 3, 5], [2, 3])
  | 80, 3 => ([2, 3, 4, 7, 8, 9, 18, 19, 20], [3, 4, 7, 9, 18])
  | 80, 6 => ([2, 3, 4, 7, 8, 9, 11, 18, 19, 20, 24], [3, 4, 7, 9, 18])
  | 82, 3 => ([0, 3, 5], [3, 14])
  | 86, 3 => ([0, 1, 4], [0, 1])
  | 90, 3 => ([2, 3, 6, 7], [2, 3])
  | 91, 3 => ([0, 3, 5], [3, 14])
  | 93, 3 => ([3, 6, 7], [])
  | 97, 3 => ([0, 2, 3, 5], [2, 3])
  | 104, 3 => ([0, 2, 3, 5], [2, 3])
  | 109, 3 => ([3, 6, 7, 8], [])
  | 115, 3 => ([0, 1, 3], [0, 1])
  | 116, 3 => ([1, 3, 8, 9, 10], [1, 8])
  | 117, 3 => ([2, 3, 7], [2, 3])
  | 121, 6 => ([1, 3, 6, 37, 38, 39], [3, 6, 37])
  | 125, 3 => ([1, 5, 9, 10], [23])
  | 131, 3 => ([1, 5, 9, 10], [23])
  | 134, 3 => ([1, 3, 8, 9, 10], [1, 8, 21])
  | 138, 3 => ([1, 5, 8, 9, 10], [25])
  | 142, 2 => ([0, 1, 2, 3, 4, 10, 11], [103, 111])
  | 146, 5 => ([3, 11, 12, 13], [9, 11, 22])
  | 149, 3 => ([3, 6, 7], [16])
  | 152, 2 => ([1, 2, 4, 6], [2, 4])
  | 157, 6 => ([1, 3, 8, 9, 10], [3, 8, 22, 24, 48, 51])
  | 159, 1 => ([0, 1, 2, 3, 8], [])
  | 159, 4 => ([0, 1, 2, 3, 8, 9], [])
  | 160, 4 => ([0, 3, 8, 9, 10, 11], [])
  | 160, 8 => ([0, 3, 8, 9, 12], [])
  | 161, 5 => ([0, 1, 8, 9, 10, 11], [9, 21])
  | 163, 2 => ([0, 8, 9], [])
  | 164, 3 => ([0, 1, 2, 3, 9, 10], [])
  | 164, 5 => ([0, 1, 2, 3, 9, 10], [])
  | 164, 14 => ([0, 1, 2, 3, 9, 10, 11], [])
  | 164, 20 => ([0, 1, 2, 3, 9, 10, 12], [])
  | 165, 3 => ([0, 1, 4, 11, 12], [])
  | 165, 5 => ([0, 1, 4, 11, 12], [])
  | 166, 3 => ([0, 1, 4, 12, 13], [])
  | 166, 5 => ([0, 1, 4, 12, 13], [])
  | 166, 13 => ([0, 1, 4, 12, 13], [])
  | 166, 15 => ([0, 1, 4, 12, 13], [])
  | 170, 7 => ([1, 2, 4, 7, 38, 39, 40], [2, 4, 36, 38])
  | 171, 2 => ([1, 2, 3, 6, 8], [3, 6])
  | 172, 3 => ([2, 3, 5, 7], [2, 3, 32])
  | 174, 3 => ([1, 3, 5], [1, 14])
  | 175, 1 => ([0, 2, 3, 4, 10], [])
  | 180, 2 => ([2, 4, 8, 9, 10], [2, 4, 8])
  | _, _ => ([], [])
def okT : List Nat := [2, 3, 4, 5, 6, 7, 8, 9, 10, 11, 12, 13, 14, 15, 16, 17, 18, 19, 20, 21, 22, 23, 24, 25, 26, 27, 28, 29, 30, 31, 32, 33, 34, 35, 36, 37, 38, 39, 40, 41, 42, 43, 44, 45, 46, 47, 48, 49, 50, 51, 52, 55, 56, 57, 58, 59, 60, 61, 62, 63, 64, 65, 66, 67, 68, 69, 70, 71, 72, 73, 74, 75, 76, 77, 78, 79, 80, 81, 82, 83, 84, 85, 86, 87, 88, 89, 90, 91, 92, 93, 94, 95, 96, 97, 98, 99, 100, 101, 102, 103, 104, 105, 106, 107, 108, 109, 110, 111, 112, 113, 114, 115, 116, 117, 118, 119, 120, 122, 123, 124, 125, 126, 127, 128, 129, 130, 131, 132, 133, 134, 135, 136, 137, 138, 139, 140, 141, 142, 143, 144, 145, 146, 147, 148, 149, 150, 151, 152, 153, 154, 155, 156, 157, 158, 162, 167, 168, 169, 170, 171, 172, 173, 174, 176, 177, 178, 179, 180, 181, 182]
def glT : Nat → Nat → List Nat × List Nat
  | 36, 0 => ([1, 2, 5], [2])
  | 150, 0 => ([1, 2, 3, 4, 5], [1, 2, 3, 10])
  | 157, 0 => ([1, 2, 3, 8, 9], [3, 8, 22, 24, 48, 51])
  | _, _ => ([], [])
def dpT : Nat → Nat → List (Nat × Nat)
  | 12, 3 => [(7, 21)]
  | 17, 10 => [(8, 77)]
  | 17, 15 => [(8, 119), (8, 121)]
  | _, _ => []
def env : Env := { ty := tyT, kl := klT, ok := fun f => okT.contains f, dp := dpT, gl := glT }
theorem ty2 : env.ty 2 = some ⟨.cell (.int .i64), Z2, .int .i64, 8, true⟩ := rfl
theorem ty3 : env.ty 3 = some ⟨.cell (.int .i64), Z3, .int .i64, 8, true⟩ := rfl
theorem ty4 : env.ty 4 = some ⟨.cell .bool, Z4, .bool, 1, true⟩ := rfl
theorem ty5 : env.ty 5 = some ⟨.cell (.int .u8), Z5, .int .u8, 1, true⟩ := rfl
theorem ty6 : env.ty 6 = some ⟨.cell (.int .u8), Z6, .int .u8, 1, true⟩ := rfl
theorem ty7 : env.ty 7 = some ⟨.cons (.cell (.int .i64)) (.cons (.cell (.int .i64)) (.cons (.cell .bool) (.cons (.cell (.int .u8)) (.nil)))), Z7, .str [2, 3, 4, 6], 24, false⟩ := rfl
theorem ty8 : env.ty 8 = some ⟨.cons (.cell (.int .i64)) (.cons (.cell (.int .i64)) (.cons (.cell .bool) (.cons (.cell (.int .u8)) (.nil)))), Z8, .str [2, 3, 4, 6], 24, false⟩ := rfl
theorem ty9 : env.ty 9 = some ⟨.cell .string, Z9, .string, 16, true⟩ := rfl
theorem ty10 : env.ty 10 = some ⟨.cell .string, Z10, .string, 16, true⟩ := rfl
theorem ty11 : env.ty 11 = some ⟨.cell .string, Z11, .string, 16, true⟩ := rfl
theorem ty12 : env.ty 12 = some ⟨.cell (.int .u64), Z12, .int .u64, 8, true⟩ := rfl
theorem ty13 : env.ty 13 = some ⟨.cons (.cell .string) (.cons (.cell (.int .u64)) (.nil)), Z13, .str [9, 12], 24, false⟩ := rfl
theorem ty14 : env.ty 14 = some ⟨.cons (.cell .string) (.cons (.cell (.int .u64)) (.nil)), Z14, .str [9, 12], 24, false⟩ := rfl
theorem ty21 : env.ty 21 = some ⟨.cell (.int .i32), Z21, .int .i32, 4, true⟩ := rfl
theorem ty22 : env.ty 22 = some ⟨.cell (.int .u32), Z22, .int .u32, 4, true⟩ := rfl
theorem ty23 : env.ty 23 = some ⟨.arr 16 (.cell (.int .u32)), Z23, .arr 16 22, 64, true⟩ := rfl
theorem ty24 : env.ty 24 = some ⟨.cons (.cell (.int .i64)) (.cons (.arr 16 (.cell (.int .u32))) (.nil)), Z24, .str [3, 23], 72, true⟩ := rfl
theorem ty25 : env.ty 25 = some ⟨.cons (.cell (.int .i64)) (.cons (.arr 16 (.cell (.int .u32))) (.nil)), Z25, .str [3, 23], 72, true⟩ := rfl
theorem ty26 : env.ty 26 = some ⟨.cons (.cell (.int .u32)) (.cons (.cell (.int .i64)) (.nil)), Z26, .str [22, 3], 16, true⟩ := rfl
theorem ty27 : env.ty 27 = some ⟨.cons (.cell (.int .u32)) (.cons (.cell (.int .i64)) (.nil)), Z27, .str [22, 3], 16, true⟩ := rfl
theorem ty28 : env.ty 28 = some ⟨.arr 16 (.cons (.cell (.int .u32)) (.cons (.cell (.int .i64)) (.nil))), Z28, .arr 16 27, 256, true⟩ := rfl
theorem ty29 : env.ty 29 = some ⟨.arr 16 (.cons (.cell (.int .u32)) (.cons (.cell (.int .i64)) (.nil))), Z29, .arr 16 27, 256, true⟩ := rfl
theorem ty30 : env.ty 30 = some ⟨.arr 16 (.arr 16 (.cons (.cell (.int .u32)) (.cons (.cell (.int .i64)) (.nil)))), Z30, .arr 16 29, 4096, true⟩ := rfl
theorem ty31 : env.ty 31 = some ⟨.cons (.cell (.int .i64)) (.cons (.cons (.cell (.int .i64)) (.cons (.arr 16 (.cell (.int .u32))) (.nil))) (.cons (.arr 16 (.arr 16 (.cons (.cell (.int .u32)) (.cons (.cell (.int .i64)) (.nil))))) (.nil))), Z31, .str [3, 25, 30], 4176, true⟩ := rfl
theorem ty32 : env.ty 32 = some ⟨.cons (.cell (.int .i64)) (.cons (.cons (.cell (.int .i64)) (.cons (.arr 16 (.cell (.int .u32))) (.nil))) (.cons (.arr 16 (.arr 16 (.cons (.cell (.int .u32)) (.cons (.cell (.int .i64)) (.nil))))) (.nil))), Z32, .str [3, 25, 30], 4176, true⟩ := rfl
theorem ty33 : env.ty 33 = some ⟨.cell (.int .u64), Z33, .int .u64, 8, true⟩ := rfl
theorem ty34 : env.ty 34 = some ⟨.cons (.cell (.int .u32)) (.cons (.cell (.int .i64)) (.cons (.cell (.int .i64)) (.nil))), Z34, .str [22, 3, 3], 24, true⟩ := rfl
theorem ty35 : env.ty 35 = some ⟨.cons (.cell (.int .u32)) (.cons (.cell (.int .i64)) (.cons (.cell (.int .i64)) (.nil))), Z35, .str [22, 3, 3], 24, true⟩ := rfl
theorem ty36 : env.ty 36 = some ⟨.arr 16 (.cons (.cell (.int .u32)) (.cons (.cell (.int .i64)) (.cons (.cell (.int .i64)) (.nil)))), Z36, .arr 16 35, 384, true⟩ := rfl
theorem ty37 : env.ty 37 = some ⟨.arr 16 (.cons (.cell (.int .u32)) (.cons (.cell (.int .i64)) (.cons (.cell (.int .i64)) (.nil)))), Z37, .arr 16 35, 384, true⟩ := rfl
theorem ty39 : env.ty 39 = some ⟨.cell .other, Z39, .slice 3, 24, false⟩ := rfl
theorem ty46 : env.ty 46 = some ⟨.cons (.arr 16 (.cons (.cell (.int .u32)) (.cons (.cell (.int .i64)) (.cons (.cell (.int .i64)) (.nil))))) (.cons (.cell (.int .i64)) (.cons (.cell (.int .i64)) (.cons (.cell (.int .i64)) (.nil)))), Z46, .str [37, 3, 3, 3], 408, true⟩ := rfl
theorem ty47 : env.ty 47 = some ⟨.cons (.arr 16 (.cons (.cell (.int .u32)) (.cons (.cell (.int .i64)) (.cons (.cell (.int .i64)) (.nil))))) (.cons (.cell (.int .i64)) (.cons (.cell (.int .i64)) (.cons (.cell (.int .i64)) (.nil)))), Z47, .str [37, 3, 3, 3], 408, true⟩ := rfl
theorem ty64 : env.ty 64 = some ⟨.cell .other, Z64, .slice 68, 24, false⟩ := rfl
theorem ty67 : env.ty 67 = some ⟨.cons (.cell (.int .i64)) (.cons (.cell (.int .i64)) (.cons (.cell (.int .u32)) (.cons (.cell (.int .i64)) (.nil)))), Z67, .str [3, 3, 22, 3], 32, true⟩ := rfl
theorem ty68 : env.ty 68 = some ⟨.cons (.cell (.int .i64)) (.cons (.cell (.int .i64)) (.cons (.cell (.int .u32)) (.cons (.cell (.int .i64)) (.nil)))), Z68, .str [3, 3, 22, 3], 32, true⟩ := rfl
theorem ty73 : env.ty 73 = some ⟨.arr 3 (.cell (.int .i64)), Z73, .arr 3 3, 24, true⟩ := rfl
theorem ty78 : env.ty 78 = some ⟨.cell .other, Z78, .slice 81, 24, false⟩ := rfl
theorem ty80 : env.ty 80 = some ⟨.cons (.cell (.int .i64)) (.cons (.cell (.int .u32)) (.nil)), Z80, .str [3, 22], 16, true⟩ := rfl
theorem ty81 : env.ty 81 = some ⟨.cons (.cell (.int .i64)) (.cons (.cell (.int .u32)) (.nil)), Z81, .str [3, 22], 16, true⟩ := rfl
theorem ty86 : env.ty 86 = some ⟨.cell .other, Z86, .slice 104, 24, false⟩ := rfl
theorem ty87 : env.ty 87 = some ⟨.arr 16 (.cell (.int .i64)), Z87, .arr 16 3, 128, true⟩ := rfl
theorem ty88 : env.ty 88 = some ⟨.cons (.cell (.int .u32)) (.cons (.cell (.int .u32)) (.nil)), Z88, .str [22, 22], 8, true⟩ := rfl
theorem ty89 : env.ty 89 = some ⟨.cons (.cell (.int .u32)) (.cons (.cell (.int .u32)) (.nil)), Z89, .str [22, 22], 8, true⟩ := rfl
theorem ty90 : env.ty 90 = some ⟨.cons (.cons (.cell (.int .u32)) (.cons (.cell (.int .u32)) (.nil))) (.cons (.cons (.cell (.int .u32)) (.cons (.cell (.int .u32)) (.nil))) (.nil)), Z90, .str [89, 89], 16, true⟩ := rfl
theorem ty91 : env.ty 91 = some ⟨.cons (.cons (.cell (.int .u32)) (.cons (.cell (.int .u32)) (.nil))) (.cons (.cons (.cell (.int .u32)) (.cons (.cell (.int .u32)) (.nil))) (.nil)), Z91, .str [89, 89], 16, true⟩ := rfl
theorem ty92 : env.ty 92 = some ⟨.arr 16 (.cons (.cons (.cell (.int .u32)) (.cons (.cell (.int .u32)) (.nil))) (.cons (.cons (.cell (.int .u32)) (.cons (.cell (.int .u32)) (.nil))) (.nil))), Z92, .arr 16 91, 256, true⟩ := rfl
theorem ty93 : env.ty 93 = some ⟨.cons (.cell (.int .i64)) (.cons (.arr 16 (.cell (.int .i64))) (.cons (.arr 16 (.cons (.cons (.cell (.int .u32)) (.cons (.cell (.int .u32)) (.nil))) (.cons (.cons (.cell (.int .u32)) (.cons (.cell (.int .u32)) (.nil))) (.nil)))) (.nil))), Z93, .str [3, 87, 92], 392, true⟩ := rfl
theorem ty94 : env.ty 94 = some ⟨.cons (.cell (.int .i64)) (.cons (.arr 16 (.cell (.int .i64))) (.cons (.arr 16 (.cons (.cons (.cell (.int .u32)) (.cons (.cell (.int .u32)) (.nil))) (.cons (.cons (.cell (.int .u32)) (.cons (.cell (.int .u32)) (.nil))) (.nil)))) (.nil))), Z94, .str [3, 87, 92], 392, true⟩ := rfl
theorem ty95 : env.ty 95 = some ⟨.cons (.arr 16 (.cell (.int .i64))) (.cons (.cons (.cell (.int .i64)) (.cons (.arr 16 (.cell (.int .i64))) (.cons (.arr 16 (.cons (.cons (.cell (.int .u32)) (.cons (.cell (.int .u32)) (.nil))) (.cons (.cons (.cell (.int .u32)) (.cons (.cell (.int .u32)) (.nil))) (.nil)))) (.nil)))) (.nil)), Z95, .str [87, 94], 520, true⟩ := rfl
theorem ty96 : env.ty 96 = some ⟨.cons (.arr 16 (.cell (.int .i64))) (.cons (.cons (.cell (.int .i64)) (.cons (.arr 16 (.cell (.int .i64))) (.cons (.arr 16 (.cons (.cons (.cell (.int .u32)) (.cons (.cell (.int .u32)) (.nil))) (.cons (.cons (.cell (.int .u32)) (.cons (.cell (.int .u32)) (.nil))) (.nil)))) (.nil)))) (.nil)), Z96, .str [87, 94], 520, true⟩ := rfl
theorem ty98 : env.ty 98 = some ⟨.cons (.cell (.int .i64)) (.cons (.arr 16 (.cell (.int .i64))) (.nil)), Z98, .str [3, 87], 136, true⟩ := rfl
theorem ty99 : env.ty 99 = some ⟨.cons (.cell (.int .i64)) (.cons (.arr 16 (.cell (.int .i64))) (.nil)), Z99, .str [3, 87], 136, true⟩ := rfl
theorem ty100 : env.ty 100 = some ⟨.cons (.cons (.cell (.int .i64)) (.cons (.cons (.cell (.int .i64)) (.cons (.arr 16 (.cell (.int .u32))) (.nil))) (.cons (.arr 16 (.arr 16 (.cons (.cell (.int .u32)) (.cons (.cell (.int .i64)) (.nil))))) (.nil)))) (.cons (.arr 16 (.cons (.cell (.int .u32)) (.cons (.cell (.int .i64)) (.cons (.cell (.int .i64)) (.nil))))) (.cons (.arr 16 (.cell (.int .u32))) (.cons (.cons (.cell (.int .i64)) (.cons (.arr 16 (.cell (.int .i64))) (.nil))) (.cons (.arr 16 (.cell (.int .i64))) (.cons (.arr 16 (.cell (.int .i64))) (.cons (.arr 16 (.cell (.int .i64))) (.nil))))))), Z100, .str [32, 37, 23, 99, 87, 87, 87], 5144, true⟩ := rfl
theorem ty101 : env.ty 101 = some ⟨.cons (.cons (.cell (.int .i64)) (.cons (.cons (.cell (.int .i64)) (.cons (.arr 16 (.cell (.int .u32))) (.nil))) (.cons (.arr 16 (.arr 16 (.cons (.cell (.int .u32)) (.cons (.cell (.int .i64)) (.nil))))) (.nil)))) (.cons (.arr 16 (.cons (.cell (.int .u32)) (.cons (.cell (.int .i64)) (.cons (.cell (.int .i64)) (.nil))))) (.cons (.arr 16 (.cell (.int .u32))) (.cons (.cons (.cell (.int .i64)) (.cons (.arr 16 (.cell (.int .i64))) (.nil))) (.cons (.arr 16 (.cell (.int .i64))) (.cons (.arr 16 (.cell (.int .i64))) (.cons (.arr 16 (.cell (.int .i64))) (.nil))))))), Z101, .str [32, 37, 23, 99, 87, 87, 87], 5144, true⟩ := rfl
theorem ty103 : env.ty 103 = some ⟨.cons (.cell (.int .i64)) (.cons (.cell (.int .i64)) (.cons (.cell (.int .u32)) (.cons (.cell .other) (.nil)))), Z103, .str [3, 3, 22, 64], 48, false⟩ := rfl
theorem ty104 : env.ty 104 = some ⟨.cons (.cell (.int .i64)) (.cons (.cell (.int .i64)) (.cons (.cell (.int .u32)) (.cons (.cell .other) (.nil)))), Z104, .str [3, 3, 22, 64], 48, false⟩ := rfl
theorem ty105 : env.ty 105 = some ⟨.cell (.int .i64), Z105, .int .i64, 8, true⟩ := rfl
theorem ty109 : env.ty 109 = some ⟨.cell .other, Z109, .slice 224, 24, false⟩ := rfl
theorem ty110 : env.ty 110 = some ⟨.cell .other, Z110, .slice 226, 24, false⟩ := rfl
theorem ty111 : env.ty 111 = some ⟨.cons (.cell (.int .i64)) (.cons (.cell .other) (.nil)), Z111, .str [3, 110], 32, false⟩ := rfl
theorem ty112 : env.ty 112 = some ⟨.cons (.cell (.int .i64)) (.cons (.cell .other) (.nil)), Z112, .str [3, 110], 32, false⟩ := rfl
theorem ty113 : env.ty 113 = some ⟨.cons (.cell (.int .i64)) (.cons (.cell .other) (.cons (.cons (.cell (.int .i64)) (.cons (.cell .other) (.nil))) (.cons (.cell .other) (.nil)))), Z113, .str [3, 109, 112, 64], 88, false⟩ := rfl
theorem ty114 : env.ty 114 = some ⟨.cons (.cell (.int .i64)) (.cons (.cell .other) (.cons (.cons (.cell (.int .i64)) (.cons (.cell .other) (.nil))) (.cons (.cell .other) (.nil)))), Z114, .str [3, 109, 112, 64], 88, false⟩ := rfl
theorem ty115 : env.ty 115 = some ⟨.cons (.cell (.int .i64)) (.cons (.cons (.cell (.int .u32)) (.cons (.cell (.int .u32)) (.nil))) (.cons (.cons (.cell (.int .u32)) (.cons (.cell (.int .u32)) (.nil))) (.cons (.cell (.int .i64)) (.cons (.cell (.int .i64)) (.cons (.cons (.cell (.int .i64)) (.cons (.cell .other) (.cons (.cons (.cell (.int .i64)) (.cons (.cell .other) (.nil))) (.cons (.cell .other) (.nil))))) (.nil)))))), Z115, .str [3, 89, 89, 3, 3, 114], 128, false⟩ := rfl
theorem ty116 : env.ty 116 = some ⟨.cons (.cell (.int .i64)) (.cons (.cons (.cell (.int .u32)) (.cons (.cell (.int .u32)) (.nil))) (.cons (.cons (.cell (.int .u32)) (.cons (.cell (.int .u32)) (.nil))) (.cons (.cell (.int .i64)) (.cons (.cell (.int .i64)) (.cons (.cons (.cell (.int .i64)) (.cons (.cell .other) (.cons (.cons (.cell (.int .i64)) (.cons (.cell .other) (.nil))) (.cons (.cell .other) (.nil))))) (.nil)))))), Z116, .str [3, 89, 89, 3, 3, 114], 128, false⟩ := rfl
theorem ty117 : env.ty 117 = some ⟨.arr 16 (.cons (.cell (.int .i64)) (.cons (.cons (.cell (.int .u32)) (.cons (.cell (.int .u32)) (.nil))) (.cons (.cons (.cell (.int .u32)) (.cons (.cell (.int .u32)) (.nil))) (.cons (.cell (.int .i64)) (.cons (.cell (.int .i64)) (.cons (.cons (.cell (.int .i64)) (.cons (.cell .other) (.cons (.cons (.cell (.int .i64)) (.cons (.cell .other) (.nil))) (.cons (.cell .other) (.nil))))) (.nil))))))), Z117, .arr 16 116, 2048, false⟩ := rfl
theorem ty122 : env.ty 122 = some ⟨.cell .other, Z122, .slice 126, 24, false⟩ := rfl
theorem ty126 : env.ty 126 = some ⟨.arr 2 (.cell (.int .i64)), Z126, .arr 2 3, 16, true⟩ := rfl
theorem ty148 : env.ty 148 = some ⟨.cell (.int .u64), Z148, .int .u64, 8, true⟩ := rfl
theorem ty185 : env.ty 185 = some ⟨.cell (.int .i64), Z185, .int .i64, 8, true⟩ := rfl
theorem ty192 : env.ty 192 = some ⟨.cell .other, Z192, .slice 5, 24, false⟩ := rfl
theorem ty199 : env.ty 199 = some ⟨.cell (.int .u64), Z199, .int .u64, 8, true⟩ := rfl
theorem ty215 : env.ty 215 = some ⟨.cell (.int .u8), Z215, .int .u8, 1, true⟩ := rfl
theorem ty216 : env.ty 216 = some ⟨.cell (.int .u8), Z216, .int .u8, 1, true⟩ := rfl
theorem ty219 : env.ty 219 = some ⟨.cell (.int .i32), Z219, .int .i32, 4, true⟩ := rfl
theorem ty220 : env.ty 220 = some ⟨.cell (.int .i32), Z220, .int .i32, 4, true⟩ := rfl
theorem ty223 : env.ty 223 = some ⟨.cons (.cell (.int .i64)) (.cons (.cell .string) (.cons (.cell (.int .i64)) (.cons (.cell (.int .i64)) (.nil)))), Z223, .str [3, 9, 3, 3], 40, true⟩ := rfl
theorem ty224 : env.ty 224 = some ⟨.cons (.cell (.int .i64)) (.cons (.cell .string) (.cons (.cell (.int .i64)) (.cons (.cell (.int .i64)) (.nil)))), Z224, .str [3, 9, 3, 3], 40, true⟩ := rfl
theorem ty225 : env.ty 225 = some ⟨.cons (.cell (.int .i64)) (.cons (.cons (.cons (.cell (.int .u32)) (.cons (.cell (.int .u32)) (.nil))) (.cons (.cons (.cell (.int .u32)) (.cons (.cell (.int .u32)) (.nil))) (.nil))) (.cons (.cell (.int .i64)) (.cons (.cell .bool) (.cons (.cell .other) (.nil))))), Z225, .str [3, 91, 3, 4, 64], 64, false⟩ := rfl
theorem ty226 : env.ty 226 = some ⟨.cons (.cell (.int .i64)) (.cons (.cons (.cons (.cell (.int .u32)) (.cons (.cell (.int .u32)) (.nil))) (.cons (.cons (.cell (.int .u32)) (.cons (.cell (.int .u32)) (.nil))) (.nil))) (.cons (.cell (.int .i64)) (.cons (.cell .bool) (.cons (.cell .other) (.nil))))), Z226, .str [3, 91, 3, 4, 64], 64, false⟩ := rfl
theorem kl3_4 : env.kl 3 4 = ([1, 2, 5, 22, 23, 24], [2, 5, 22]) := rfl
theorem kl3_7 : env.kl 3 7 = ([1, 2, 5, 7, 22, 23, 24, 28], [2, 5, 22]) := rfl
theorem kl5_5 : env.kl 5 5 = ([3, 4, 7, 8, 23], [3, 4, 7, 8]) := rfl
theorem kl6_10 : env.kl 6 10 = ([3, 4, 77, 78], [3, 4]) := rfl
theorem kl7_7 : env.kl 7 7 = ([1, 2, 5, 35, 36], [2, 5, 17]) := rfl
theorem kl8_5 : env.kl 8 5 = ([3, 4, 7, 20, 21, 22], [3, 4, 19]) := rfl
theorem kl9_7 : env.kl 9 7 = ([3, 5, 7, 54], [3, 5, 7]) := rfl
theorem kl10_7 : env.kl 10 7 = ([2, 3, 7, 8, 58, 59], [3, 19, 22]) := rfl
theorem kl10_15 : env.kl 10 15 = ([3, 14, 127], [3, 14]) := rfl
theorem kl11_5 : env.kl 11 5 = ([4, 7, 23, 24, 25], [4, 7]) := rfl
theorem kl11_12 : env.kl 11 12 = ([4, 7, 10, 11, 41], [4, 7, 10]) := rfl
theorem kl11_20 : env.kl 11 20 = ([7, 10, 11, 66], [7, 10]) := rfl
theorem kl12_8 : env.kl 12 8 = ([7, 8, 9, 10, 58, 59], [7, 8, 25, 28]) := rfl
theorem kl12_15 : env.kl 12 15 = ([7, 8, 9, 12, 73, 74], [7, 8, 25, 73]) := rfl
theorem kl13_5 : env.kl 13 5 = ([5, 19, 20, 21], [5]) := rfl
theorem kl14_5 : env.kl 14 5 = ([5, 20, 21, 22], [5]) := rfl
theorem kl14_9 : env.kl 14 9 = ([5, 7, 8, 20, 21, 22, 33], [5, 7, 8]) := rfl
theorem kl15_3 : env.kl 15 3 = ([1, 2, 4, 5, 11], [2, 4, 5]) := rfl
theorem kl20_3 : env.kl 20 3 = ([0, 2, 3, 5], [2, 3]) := rfl
theorem kl21_3 : env.kl 21 3 = ([0, 2, 3, 5], [2, 3]) := rfl
theorem kl24_3 : env.kl 24 3 = ([3, 5, 7, 10, 11], [3, 5, 29]) := rfl
theorem kl25_3 : env.kl 25 3 = ([3, 5, 7, 10, 11], [3, 5, 29]) := rfl
theorem kl26_5 : env.kl 26 5 = ([2, 4, 5, 13], [2, 4, 5]) := rfl
theorem kl27_2 : env.kl 27 2 = ([2, 4, 7, 8], [2, 4]) := rfl
theorem kl28_2 : env.kl 28 2 = ([2, 4, 8, 9, 10], [2, 4, 8]) := rfl
theorem kl29_2 : env.kl 29 2 = ([2, 4, 8, 9, 10], [2, 4, 8]) := rfl
theorem kl33_3 : env.kl 33 3 = ([2, 3, 4, 7, 12, 13, 14], [3, 4, 12, 31]) := rfl
theorem kl34_3 : env.kl 34 3 = ([2, 3, 4, 7, 12, 13, 14], [3, 4, 12, 31]) := rfl
theorem kl37_3 : env.kl 37 3 = ([2, 3, 6, 7], [2, 3]) := rfl
theorem kl42_3 : env.kl 42 3 = ([1, 2, 3, 9, 15, 16], [9]) := rfl
theorem kl43_3 : env.kl 43 3 = ([2, 3, 5, 7], [2, 3, 19]) := rfl
theorem kl45_2 : env.kl 45 2 = ([2, 4, 7, 8, 9], [2, 4]) := rfl
theorem kl47_5 : env.kl 47 5 = ([1, 2, 4, 5, 13], [2, 4, 5]) := rfl
theorem kl47_7 : env.kl 47 7 = ([1, 2, 4, 5, 13, 15], [2, 4, 5]) := rfl
theorem kl48_5 : env.kl 48 5 = ([1, 2, 4, 5, 17], [2, 4, 5]) := rfl
theorem kl48_7 : env.kl 48 7 = ([1, 2, 4, 5, 17, 19, 20], [2, 4, 5]) := rfl
theorem kl49_3 : env.kl 49 3 = ([1, 2, 5, 10, 11, 12], [2, 10, 26]) := rfl
theorem kl50_3 : env.kl 50 3 = ([1, 2, 5, 10, 11, 12], [2, 10, 30]) := rfl
theorem kl51_6 : env.kl 51 6 = ([1, 2, 3, 7, 8, 23, 24, 25], [3, 7, 8, 23, 56]) := rfl
theorem kl51_15 : env.kl 51 15 = ([7, 8, 13, 58, 59, 60], [7, 8, 56, 79]) := rfl
theorem kl51_18 : env.kl 51 18 = ([7, 8, 13, 15, 58, 59, 60, 64, 65, 66], [7, 8, 56, 79]) := rfl
theorem kl52_3 : env.kl 52 3 = ([1, 2, 3, 7, 20, 21, 22], [3, 20, 91]) := rfl
theorem kl52_9 : env.kl 52 9 = ([1, 2, 3, 7, 9, 11, 20, 21, 22, 56, 57, 58], [3, 20, 38, 56, 91]) := rfl
theorem kl53_5 : env.kl 53 5 = ([1, 2, 5, 21, 22, 23], [2, 5, 21, 57]) := rfl
theorem kl54_5 : env.kl 54 5 = ([1, 2, 5, 24, 25, 26], [2, 5, 24, 84, 88, 92, 97]) := rfl
theorem kl54_12 : env.kl 54 12 = ([1, 2, 5, 10, 11, 24, 25, 26], [2, 5, 10, 24, 84, 88, 92, 97]) := rfl
theorem kl57_3 : env.kl 57 3 = ([1, 3, 5], [1, 15]) := rfl
theorem kl58_3 : env.kl 58 3 = ([1, 3, 5], [1, 15]) := rfl
theorem kl59_2 : env.kl 59 2 = ([0, 5, 6, 7], []) := rfl
theorem kl61_4 : env.kl 61 4 = ([2, 3, 13], [2, 3]) := rfl
theorem kl63_4 : env.kl 63 4 = ([3, 4, 5, 6, 17, 18], [3, 4, 6]) := rfl
theorem kl63_10 : env.kl 63 10 = ([4, 5, 6, 32, 33], [3, 4, 6]) := rfl
theorem kl64_3 : env.kl 64 3 = ([1, 2, 3, 6], [1, 2, 3]) := rfl
theorem kl67_3 : env.kl 67 3 = ([2, 5, 9, 10], [2, 5, 25]) := rfl
theorem kl68_3 : env.kl 68 3 = ([2, 3, 5, 7], [2, 3, 5, 27]) := rfl
theorem kl69_2 : env.kl 69 2 = ([2, 4, 7, 8, 9], [2, 4]) := rfl
theorem kl70_2 : env.kl 70 2 = ([2, 4, 7, 8, 9], [2, 4]) := rfl
theorem kl71_3 : env.kl 71 3 = ([3, 7, 8], [24]) := rfl
theorem kl72_3 : env.kl 72 3 = ([3, 7, 8], [24]) := rfl
theorem kl73_3 : env.kl 73 3 = ([1, 2, 3, 5], [1, 2, 3]) := rfl
theorem kl74_3 : env.kl 74 3 = ([1, 2, 3, 5], [1, 2, 3]) := rfl
theorem kl75_2 : env.kl 75 2 = ([0, 5, 6, 7], []) := rfl
theorem kl77_4 : env.kl 77 4 = ([1, 24, 25], [1]) := rfl
theorem kl79_3 : env.kl 79 3 = ([0, 2, 3, 5], [2, 3]) := rfl
theorem kl80_3 : env.kl 80 3 = ([2, 3, 4, 7, 8, 9, 18, 19, 20], [3, 4, 7, 9, 18]) := rfl
theorem kl80_6 : env.kl 80 6 = ([2, 3, 4, 7, 8, 9, 11, 18, 19, 20, 24], [3, 4, 7, 9, 18]) := rfl
theorem kl82_3 : env.kl 82 3 = ([0, 3, 5], [3, 14]) := rfl
theorem kl86_3 : env.kl 86 3 = ([0, 1, 4], [0, 1]) := rfl
theorem kl90_3 : env.kl 90 3 = ([2, 3, 6, 7], [2, 3]) := rfl
theorem kl91_3 : env.kl 91 3 = ([0, 3, 5], [3, 14]) := rfl
theorem kl93_3 : env.kl 93 3 = ([3, 6, 7], []) := rfl
theorem kl97_3 : env.kl 97 3 = ([0, 2, 3, 5], [2, 3]) := rfl
theorem kl104_3 : env.kl 104 3 = ([0, 2, 3, 5], [2, 3]) := rfl
theorem kl109_3 : env.kl 109 3 = ([3, 6, 7, 8], []) := rfl
theorem kl115_3 : env.kl 115 3 = ([0, 1, 3], [0, 1]) := rfl
theorem kl116_3 : env.kl 116 3 = ([1, 3, 8, 9, 10], [1, 8]) := rfl
theorem kl117_3 : env.kl 117 3 = ([2, 3, 7], [2, 3]) := rfl
theorem kl121_6 : env.kl 121 6 = ([1, 3, 6, 37, 38, 39], [3, 6, 37]) := rfl
theorem kl125_3 : env.kl 125 3 = ([1, 5, 9, 10], [23]) := rfl
theorem kl131_3 : env.kl 131 3 = ([1, 5, 9, 10], [23]) := rfl
theorem kl134_3 : env.kl 134 3 = ([1, 3, 8, 9, 10], [1, 8, 21]) := rfl
theorem kl138_3 : env.kl 138 3 = ([1, 5, 8, 9, 10], [25]) := rfl
theorem kl142_2 : env.kl 142 2 = ([0, 1, 2, 3, 4, 10, 11], [103, 111]) := rfl
theorem kl146_5 : env.kl 146 5 = ([3, 11, 12, 13], [9, 11, 22]) := rfl
theorem kl149_3 : env.kl 149 3 = ([3, 6, 7], [16]) := rfl
theorem kl152_2 : env.kl 152 2 = ([1, 2, 4, 6], [2, 4]) := rfl
theorem kl157_6 : env.kl 157 6 = ([1, 3, 8, 9, 10], [3, 8, 22, 24, 48, 51]) := rfl
theorem kl159_1 : env.kl 159 1 = ([0, 1, 2, 3, 8], []) := rfl
theorem kl159_4 : env.kl 159 4 = ([0, 1, 2, 3, 8, 9], []) := rfl
theorem kl160_4 : env.kl 160 4 = ([0, 3, 8, 9, 10, 11], []) := rfl
theorem kl160_8 : env.kl 160 8 = ([0, 3, 8, 9, 12], []) := rfl
theorem kl161_5 : env.kl 161 5 = ([0, 1, 8, 9, 10, 11], [9, 21]) := rfl
theorem kl163_2 : env.kl 163 2 = ([0, 8, 9], []) := rfl
theorem kl164_3 : env.kl 164 3 = ([0, 1, 2, 3, 9, 10], []) := rfl
theorem kl164_5 : env.kl 164 5 = ([0, 1, 2, 3, 9, 10], []) := rfl
theorem kl164_14 : env.kl 164 14 = ([0, 1, 2, 3, 9, 10, 11], []) := rfl
theorem kl164_20 : env.kl 164 20 = ([0, 1, 2, 3, 9, 10, 12], []) := rfl
theorem kl165_3 : env.kl 165 3 = ([0, 1, 4, 11, 12], []) := rfl
theorem kl165_5 : env.kl 165 5 = ([0, 1, 4, 11, 12], []) := rfl
theorem kl166_3 : env.kl 166 3 = ([0, 1, 4, 12, 13], []) := rfl
theorem kl166_5 : env.kl 166 5 = ([0, 1, 4, 12, 13], []) := rfl
theorem kl166_13 : env.kl 166 13 = ([0, 1, 4, 12, 13], []) := rfl
theorem kl166_15 : env.kl 166 15 = ([0, 1, 4, 12, 13], []) := rfl
theorem kl170_7 : env.kl 170 7 = ([1, 2, 4, 7, 38, 39, 40], [2, 4, 36, 38]) := rfl
theorem kl171_2 : env.kl 171 2 = ([1, 2, 3, 6, 8], [3, 6]) := rfl
theorem kl172_3 : env.kl 172 3 = ([2, 3, 5, 7], [2, 3, 32]) := rfl
theorem kl174_3 : env.kl 174 3 = ([1, 3, 5], [1, 14]) := rfl
theorem kl175_1 : env.kl 175 1 = ([0, 2, 3, 4, 10], []) := rfl
theorem kl180_2 : env.kl 180 2 = ([2, 4, 8, 9, 10], [2, 4, 8]) := rfl
theorem dp3_10 : env.dp 3 10 = [] := rfl
theorem dp4_1 : env.dp 4 1 = [] := rfl
theorem dp5_7 : env.dp 5 7 = [] := rfl
theorem dp5_11 : env.dp 5 11 = [] := rfl
theorem dp6_3 : env.dp 6 3 = [] := rfl
theorem dp6_12 : env.dp 6 12 = [] := rfl
theorem dp7_4 : env.dp 7 4 = [] := rfl
theorem dp7_13 : env.dp 7 13 = [] := rfl
theorem dp7_15 : env.dp 7 15 = [] := rfl
theorem dp8_3 : env.dp 8 3 = [] := rfl
theorem dp8_10 : env.dp 8 10 = [] := rfl
theorem dp9_2 : env.dp 9 2 = [] := rfl
theorem dp9_9 : env.dp 9 9 = [] := rfl
theorem dp9_12 : env.dp 9 12 = [] := rfl
theorem dp10_1 : env.dp 10 1 = [] := rfl
theorem dp10_4 : env.dp 10 4 = [] := rfl
theorem dp10_9 : env.dp 10 9 = [] := rfl
theorem dp10_18 : env.dp 10 18 = [] := rfl
theorem dp11_9 : env.dp 11 9 = [] := rfl
theorem dp12_3 : env.dp 12 3 = [(7, 21)] := rfl
theorem dp12_4 : env.dp 12 4 = [] := rfl
theorem dp12_5 : env.dp 12 5 = [] := rfl
theorem dp12_10 : env.dp 12 10 = [] := rfl
theorem dp12_19 : env.dp 12 19 = [] := rfl
theorem dp14_11 : env.dp 14 11 = [] := rfl
theorem dp14_12 : env.dp 14 12 = [] := rfl
theorem dp15_5 : env.dp 15 5 = [] := rfl
theorem dp17_10 : env.dp 17 10 = [(8, 77)] := rfl
theorem dp17_15 : env.dp 17 15 = [(8, 119), (8, 121)] := rfl
theorem dp22_1 : env.dp 22 1 = [] := rfl
theorem dp23_1 : env.dp 23 1 = [] := rfl
theorem dp26_7 : env.dp 26 7 = [] := rfl
theorem dp27_4 : env.dp 27 4 = [] := rfl
theorem dp30_3 : env.dp 30 3 = [] := rfl
theorem dp30_6 : env.dp 30 6 = [] := rfl
theorem dp31_3 : env.dp 31 3 = [] := rfl
theorem dp32_3 : env.dp 32 3 = [] := rfl
theorem dp41_2 : env.dp 41 2 = [] := rfl
theorem dp42_6 : env.dp 42 6 = [] := rfl
theorem dp43_5 : env.dp 43 5 = [] := rfl
theorem dp51_20 : env.dp 51 20 = [] := rfl
theorem dp60_3 : env.dp 60 3 = [] := rfl
theorem dp68_5 : env.dp 68 5 = [] := rfl
theorem dp76_3 : env.dp 76 3 = [] := rfl
theorem dp76_4 : env.dp 76 4 = [] := rfl
theorem dp77_1 : env.dp 77 1 = [] := rfl
theorem dp77_6 : env.dp 77 6 = [] := rfl
theorem dp80_8 : env.dp 80 8 = [] := rfl
theorem dp80_11 : env.dp 80 11 = [] := rfl
theorem dp80_14 : env.dp 80 14 = [] := rfl
theorem dp108_1 : env.dp 108 1 = [] := rfl
theorem dp116_5 : env.dp 116 5 = [] := rfl
theorem dp122_3 : env.dp 122 3 = [] := rfl
theorem dp140_1 : env.dp 140 1 = [] := rfl
theorem dp142_17 : env.dp 142 17 = [] := rfl
theorem dp150_1 : env.dp 150 1 = [] := rfl
theorem dp150_7 : env.dp 150 7 = [] := rfl
theorem dp154_1 : env.dp 154 1 = [] := rfl
theorem dp155_1 : env.dp 155 1 = [] := rfl
theorem dp172_5 : env.dp 172 5 = [] := rfl
theorem dp177_1 : env.dp 177 1 = [] := rfl
theorem dp177_2 : env.dp 177 2 = [] := rfl
theorem dp177_3 : env.dp 177 3 = [] := rfl
theorem dp182_1 : env.dp 182 1 = [] := rfl
theorem gl36_0 : env.gl 36 0 = ([1, 2, 5], [2]) := rfl
theorem gl150_0 : env.gl 150 0 = ([1, 2, 3, 4, 5], [1, 2, 3, 10]) := rfl
theorem gl157_0 : env.gl 157 0 = ([1, 2, 3, 8, 9], [3, 8, 22, 24, 48, 51]) := rfl
end Go.Proofs.Ytfbaikkadndckaa.Ev
