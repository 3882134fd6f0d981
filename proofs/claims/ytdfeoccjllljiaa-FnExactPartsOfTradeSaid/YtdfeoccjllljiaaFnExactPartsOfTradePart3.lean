/- Part 3 of what the proof of the law FnExactPartsOfTrade rests on: contracts of functions of the program, for every argument that each names; no statement of the seat is proved here. -/
import Derived.Test.YtdfeoccjllljiaaProg
import Derived.KernelRfl
import Derived.Test.YtdfeoccjllljiaaRows
import Derived.Test.YtdfeoccjllljiaaFnExactPartsOfTradePart2

section
/- For each type of the translation: what the logic asks of it, as the kernel reckons it. -/
set_option linter.all false
namespace Go.Proofs.Ytdfeoccjllljiaa
open Go.Ab

theorem ti2 : ti Try.prog 2 = some ⟨.int .i64, 1, 8, (.int .i64 0)⟩ := by kernel_rfl
theorem zok2 : zeroOK Try.prog 2 = true := by kernel_rfl
theorem ti3 : ti Try.prog 3 = some ⟨.int .i64, 1, 8, (.int .i64 0)⟩ := by kernel_rfl
theorem zok3 : zeroOK Try.prog 3 = true := by kernel_rfl
theorem ti4 : ti Try.prog 4 = some ⟨.bool, 1, 1, (.bool false)⟩ := by kernel_rfl
theorem zok4 : zeroOK Try.prog 4 = true := by kernel_rfl
theorem ti5 : ti Try.prog 5 = some ⟨.int .u8, 1, 1, (.int .u8 0)⟩ := by kernel_rfl
theorem zok5 : zeroOK Try.prog 5 = true := by kernel_rfl
theorem ti6 : ti Try.prog 6 = some ⟨.int .u8, 1, 1, (.int .u8 0)⟩ := by kernel_rfl
theorem zok6 : zeroOK Try.prog 6 = true := by kernel_rfl
theorem ti7 : ti Try.prog 7 = some ⟨.struct (Try.prog.fieldsOf 7), 4, 24, (.agg #[(.int .i64 0), (.int .i64 0), (.bool false), (.int .u8 0)])⟩ := by kernel_rfl
theorem zok7 : zeroOK Try.prog 7 = true := by kernel_rfl
theorem ti8 : ti Try.prog 8 = some ⟨.struct (Try.prog.fieldsOf 8), 4, 24, (.agg #[(.int .i64 0), (.int .i64 0), (.bool false), (.int .u8 0)])⟩ := by kernel_rfl
theorem zok8 : zeroOK Try.prog 8 = true := by kernel_rfl
theorem ti9 : ti Try.prog 9 = some ⟨.string, 1, 16, (.string ⟨#[]⟩)⟩ := by kernel_rfl
theorem zok9 : zeroOK Try.prog 9 = true := by kernel_rfl
theorem ti10 : ti Try.prog 10 = some ⟨.string, 1, 16, (.string ⟨#[]⟩)⟩ := by kernel_rfl
theorem zok10 : zeroOK Try.prog 10 = true := by kernel_rfl
theorem ti11 : ti Try.prog 11 = some ⟨.string, 1, 16, (.string ⟨#[]⟩)⟩ := by kernel_rfl
theorem zok11 : zeroOK Try.prog 11 = true := by kernel_rfl
theorem ti12 : ti Try.prog 12 = some ⟨.int .u64, 1, 8, (.int .u64 0)⟩ := by kernel_rfl
theorem zok12 : zeroOK Try.prog 12 = true := by kernel_rfl
theorem ti13 : ti Try.prog 13 = some ⟨.struct (Try.prog.fieldsOf 13), 2, 24, (.agg #[(.string ⟨#[]⟩), (.int .u64 0)])⟩ := by kernel_rfl
theorem zok13 : zeroOK Try.prog 13 = true := by kernel_rfl
theorem ti14 : ti Try.prog 14 = some ⟨.struct (Try.prog.fieldsOf 14), 2, 24, (.agg #[(.string ⟨#[]⟩), (.int .u64 0)])⟩ := by kernel_rfl
theorem zok14 : zeroOK Try.prog 14 = true := by kernel_rfl
theorem ti15 : ti Try.prog 15 = some ⟨.pointer 219, 1, 8, (.pointer none)⟩ := by kernel_rfl
theorem zok15 : zeroOK Try.prog 15 = true := by kernel_rfl
theorem ti16 : ti Try.prog 16 = some ⟨.pointer 222, 1, 8, (.pointer none)⟩ := by kernel_rfl
theorem zok16 : zeroOK Try.prog 16 = true := by kernel_rfl
theorem ti17 : ti Try.prog 17 = some ⟨.pointer 231, 1, 8, (.pointer none)⟩ := by kernel_rfl
theorem zok17 : zeroOK Try.prog 17 = true := by kernel_rfl
theorem ti18 : ti Try.prog 18 = some ⟨.struct (Try.prog.fieldsOf 18), 1, 8, (.agg #[(.pointer none)])⟩ := by kernel_rfl
theorem zok18 : zeroOK Try.prog 18 = true := by kernel_rfl
theorem ti19 : ti Try.prog 19 = some ⟨.struct (Try.prog.fieldsOf 19), 1, 8, (.agg #[(.pointer none)])⟩ := by kernel_rfl
theorem zok19 : zeroOK Try.prog 19 = true := by kernel_rfl
theorem ti21 : ti Try.prog 21 = some ⟨.int .i32, 1, 4, (.int .i32 0)⟩ := by kernel_rfl
theorem zok21 : zeroOK Try.prog 21 = true := by kernel_rfl
theorem ti22 : ti Try.prog 22 = some ⟨.slice 92, 1, 24, (.slice none 0 0)⟩ := by kernel_rfl
theorem zok22 : zeroOK Try.prog 22 = true := by kernel_rfl
theorem ti23 : ti Try.prog 23 = some ⟨.struct (Try.prog.fieldsOf 23), 3, 56, (.agg #[(.int .i64 0), (.slice none 0 0), (.slice none 0 0)])⟩ := by kernel_rfl
theorem zok23 : zeroOK Try.prog 23 = true := by kernel_rfl
theorem ti24 : ti Try.prog 24 = some ⟨.struct (Try.prog.fieldsOf 24), 3, 56, (.agg #[(.int .i64 0), (.slice none 0 0), (.slice none 0 0)])⟩ := by kernel_rfl
theorem zok24 : zeroOK Try.prog 24 = true := by kernel_rfl
theorem ti28 : ti Try.prog 28 = some ⟨.slice 93, 1, 24, (.slice none 0 0)⟩ := by kernel_rfl
theorem zok28 : zeroOK Try.prog 28 = true := by kernel_rfl
theorem ti29 : ti Try.prog 29 = some ⟨.struct (Try.prog.fieldsOf 29), 3, 56, (.agg #[(.int .i64 0), (.slice none 0 0), (.slice none 0 0)])⟩ := by kernel_rfl
theorem zok29 : zeroOK Try.prog 29 = true := by kernel_rfl
theorem ti30 : ti Try.prog 30 = some ⟨.struct (Try.prog.fieldsOf 30), 3, 56, (.agg #[(.int .i64 0), (.slice none 0 0), (.slice none 0 0)])⟩ := by kernel_rfl
theorem zok30 : zeroOK Try.prog 30 = true := by kernel_rfl
theorem ti34 : ti Try.prog 34 = some ⟨.struct (Try.prog.fieldsOf 34), 2, 32, (.agg #[(.int .i64 0), (.slice none 0 0)])⟩ := by kernel_rfl
theorem zok34 : zeroOK Try.prog 34 = true := by kernel_rfl
theorem ti35 : ti Try.prog 35 = some ⟨.struct (Try.prog.fieldsOf 35), 2, 32, (.agg #[(.int .i64 0), (.slice none 0 0)])⟩ := by kernel_rfl
theorem zok35 : zeroOK Try.prog 35 = true := by kernel_rfl
theorem ti37 : ti Try.prog 37 = some ⟨.struct (Try.prog.fieldsOf 37), 2, 32, (.agg #[(.int .i64 0), (.slice none 0 0)])⟩ := by kernel_rfl
theorem zok37 : zeroOK Try.prog 37 = true := by kernel_rfl
theorem ti38 : ti Try.prog 38 = some ⟨.struct (Try.prog.fieldsOf 38), 2, 32, (.agg #[(.int .i64 0), (.slice none 0 0)])⟩ := by kernel_rfl
theorem zok38 : zeroOK Try.prog 38 = true := by kernel_rfl
theorem ti45 : ti Try.prog 45 = some ⟨.slice 30, 1, 24, (.slice none 0 0)⟩ := by kernel_rfl
theorem zok45 : zeroOK Try.prog 45 = true := by kernel_rfl
theorem ti51 : ti Try.prog 51 = some ⟨.slice 56, 1, 24, (.slice none 0 0)⟩ := by kernel_rfl
theorem zok51 : zeroOK Try.prog 51 = true := by kernel_rfl
theorem ti56 : ti Try.prog 56 = some ⟨.slice 2, 1, 24, (.slice none 0 0)⟩ := by kernel_rfl
theorem zok56 : zeroOK Try.prog 56 = true := by kernel_rfl
theorem ti63 : ti Try.prog 63 = some ⟨.slice 51, 1, 24, (.slice none 0 0)⟩ := by kernel_rfl
theorem zok63 : zeroOK Try.prog 63 = true := by kernel_rfl
theorem ti92 : ti Try.prog 92 = some ⟨.array 3 2, 3, 24, (.agg #[(.int .i64 0), (.int .i64 0), (.int .i64 0)])⟩ := by kernel_rfl
theorem zok92 : zeroOK Try.prog 92 = true := by kernel_rfl
theorem ti93 : ti Try.prog 93 = some ⟨.array 3 2, 3, 24, (.agg #[(.int .i64 0), (.int .i64 0), (.int .i64 0)])⟩ := by kernel_rfl
theorem zok93 : zeroOK Try.prog 93 = true := by kernel_rfl
theorem ti96 : ti Try.prog 96 = some ⟨.pointer 172, 1, 8, (.pointer none)⟩ := by kernel_rfl
theorem zok96 : zeroOK Try.prog 96 = true := by kernel_rfl
theorem ti129 : ti Try.prog 129 = some ⟨.slice 28, 1, 24, (.slice none 0 0)⟩ := by kernel_rfl
theorem zok129 : zeroOK Try.prog 129 = true := by kernel_rfl
theorem ti136 : ti Try.prog 136 = some ⟨.array 15 2, 15, 120, (.agg (Array.replicate 15 (.int .i64 0)))⟩ := by kernel_rfl
theorem zok136 : zeroOK Try.prog 136 = true := by kernel_rfl
theorem ti138 : ti Try.prog 138 = some ⟨.int .u64, 1, 8, (.int .u64 0)⟩ := by kernel_rfl
theorem zok138 : zeroOK Try.prog 138 = true := by kernel_rfl
theorem ti152 : ti Try.prog 152 = some ⟨.slice 4, 1, 24, (.slice none 0 0)⟩ := by kernel_rfl
theorem zok152 : zeroOK Try.prog 152 = true := by kernel_rfl
theorem ti157 : ti Try.prog 157 = some ⟨.slice 158, 1, 24, (.slice none 0 0)⟩ := by kernel_rfl
theorem zok157 : zeroOK Try.prog 157 = true := by kernel_rfl
theorem ti158 : ti Try.prog 158 = some ⟨.array 2 2, 2, 16, (.agg #[(.int .i64 0), (.int .i64 0)])⟩ := by kernel_rfl
theorem zok158 : zeroOK Try.prog 158 = true := by kernel_rfl
theorem ti170 : ti Try.prog 170 = some ⟨.int .u64, 1, 8, (.int .u64 0)⟩ := by kernel_rfl
theorem zok170 : zeroOK Try.prog 170 = true := by kernel_rfl
theorem ti171 : ti Try.prog 171 = some ⟨.array 15 136, 225, 1800, (.agg (Array.replicate 225 (.int .i64 0)))⟩ := by kernel_rfl
theorem zok171 : zeroOK Try.prog 171 = true := by kernel_rfl
theorem ti172 : ti Try.prog 172 = some ⟨.array 15 136, 225, 1800, (.agg (Array.replicate 225 (.int .i64 0)))⟩ := by kernel_rfl
theorem zok172 : zeroOK Try.prog 172 = true := by kernel_rfl
theorem ti179 : ti Try.prog 179 = some ⟨.int .i64, 1, 8, (.int .i64 0)⟩ := by kernel_rfl
theorem zok179 : zeroOK Try.prog 179 = true := by kernel_rfl
theorem ti188 : ti Try.prog 188 = some ⟨.int .u32, 1, 4, (.int .u32 0)⟩ := by kernel_rfl
theorem zok188 : zeroOK Try.prog 188 = true := by kernel_rfl
theorem ti192 : ti Try.prog 192 = some ⟨.int .u64, 1, 8, (.int .u64 0)⟩ := by kernel_rfl
theorem zok192 : zeroOK Try.prog 192 = true := by kernel_rfl
theorem ti196 : ti Try.prog 196 = some ⟨.pointer 3, 1, 8, (.pointer none)⟩ := by kernel_rfl
theorem zok196 : zeroOK Try.prog 196 = true := by kernel_rfl
theorem ti208 : ti Try.prog 208 = some ⟨.pointer 192, 1, 8, (.pointer none)⟩ := by kernel_rfl
theorem zok208 : zeroOK Try.prog 208 = true := by kernel_rfl
theorem ti218 : ti Try.prog 218 = some ⟨.struct (Try.prog.fieldsOf 218), 4, 40, (.agg #[(.pointer none), (.pointer none), (.pointer none), (.string ⟨#[]⟩)])⟩ := by kernel_rfl
theorem zok218 : zeroOK Try.prog 218 = true := by kernel_rfl
theorem ti219 : ti Try.prog 219 = some ⟨.struct (Try.prog.fieldsOf 219), 4, 40, (.agg #[(.pointer none), (.pointer none), (.pointer none), (.string ⟨#[]⟩)])⟩ := by kernel_rfl
theorem zok219 : zeroOK Try.prog 219 = true := by kernel_rfl
theorem ti220 : ti Try.prog 220 = some ⟨.array 0 16, 0, 0, (.agg #[])⟩ := by kernel_rfl
theorem zok220 : zeroOK Try.prog 220 = true := by kernel_rfl
theorem ti221 : ti Try.prog 221 = some ⟨.struct (Try.prog.fieldsOf 221), 0, 0, (.agg #[])⟩ := by kernel_rfl
theorem zok221 : zeroOK Try.prog 221 = true := by kernel_rfl
theorem ti222 : ti Try.prog 222 = some ⟨.struct (Try.prog.fieldsOf 222), 0, 0, (.agg #[])⟩ := by kernel_rfl
theorem zok222 : zeroOK Try.prog 222 = true := by kernel_rfl
theorem ti224 : ti Try.prog 224 = some ⟨.int .u8, 1, 1, (.int .u8 0)⟩ := by kernel_rfl
theorem zok224 : zeroOK Try.prog 224 = true := by kernel_rfl
theorem ti225 : ti Try.prog 225 = some ⟨.int .u8, 1, 1, (.int .u8 0)⟩ := by kernel_rfl
theorem zok225 : zeroOK Try.prog 225 = true := by kernel_rfl
theorem ti227 : ti Try.prog 227 = some ⟨.pointer 5, 1, 8, (.pointer none)⟩ := by kernel_rfl
theorem zok227 : zeroOK Try.prog 227 = true := by kernel_rfl
theorem ti228 : ti Try.prog 228 = some ⟨.int .i32, 1, 4, (.int .i32 0)⟩ := by kernel_rfl
theorem zok228 : zeroOK Try.prog 228 = true := by kernel_rfl
theorem ti229 : ti Try.prog 229 = some ⟨.int .i32, 1, 4, (.int .i32 0)⟩ := by kernel_rfl
theorem zok229 : zeroOK Try.prog 229 = true := by kernel_rfl
theorem ti230 : ti Try.prog 230 = some ⟨.struct (Try.prog.fieldsOf 230), 11, 48, (.agg #[(.int .u64 0), (.int .u64 0), (.int .u32 0), (.int .u8 0), (.int .u8 0), (.int .u8 0), (.int .u8 0), .nilFunc, (.pointer none), (.int .i32 0), (.int .i32 0)])⟩ := by kernel_rfl
theorem zok230 : zeroOK Try.prog 230 = true := by kernel_rfl
theorem ti231 : ti Try.prog 231 = some ⟨.struct (Try.prog.fieldsOf 231), 11, 48, (.agg #[(.int .u64 0), (.int .u64 0), (.int .u32 0), (.int .u8 0), (.int .u8 0), (.int .u8 0), (.int .u8 0), .nilFunc, (.pointer none), (.int .i32 0), (.int .i32 0)])⟩ := by kernel_rfl
theorem zok231 : zeroOK Try.prog 231 = true := by kernel_rfl
theorem bt7_  : Try.prog.built 7 [] = some #[(.int .i64 0), (.int .i64 0), (.bool false), (.int .u8 0)] := by kernel_rfl
theorem bt7_0 (x0 : Int) : Try.prog.built 7 [(0, (.int .i64 x0))] = some #[(.int .i64 x0), (.int .i64 0), (.bool false), (.int .u8 0)] := by kernel_rfl
theorem bt7_1 (x1 : Int) : Try.prog.built 7 [(1, (.int .i64 x1))] = some #[(.int .i64 0), (.int .i64 x1), (.bool false), (.int .u8 0)] := by kernel_rfl
theorem bt7_2 (x2 : Bool) : Try.prog.built 7 [(2, (.bool x2))] = some #[(.int .i64 0), (.int .i64 0), (.bool x2), (.int .u8 0)] := by kernel_rfl
theorem bt7_3 (x3 : Int) : Try.prog.built 7 [(3, (.int .u8 x3))] = some #[(.int .i64 0), (.int .i64 0), (.bool false), (.int .u8 x3)] := by kernel_rfl
theorem bt7_01 (x0 : Int) (x1 : Int) : Try.prog.built 7 [(0, (.int .i64 x0)), (1, (.int .i64 x1))] = some #[(.int .i64 x0), (.int .i64 x1), (.bool false), (.int .u8 0)] := by kernel_rfl
theorem bt7_02 (x0 : Int) (x2 : Bool) : Try.prog.built 7 [(0, (.int .i64 x0)), (2, (.bool x2))] = some #[(.int .i64 x0), (.int .i64 0), (.bool x2), (.int .u8 0)] := by kernel_rfl
theorem bt7_03 (x0 : Int) (x3 : Int) : Try.prog.built 7 [(0, (.int .i64 x0)), (3, (.int .u8 x3))] = some #[(.int .i64 x0), (.int .i64 0), (.bool false), (.int .u8 x3)] := by kernel_rfl
theorem bt7_12 (x1 : Int) (x2 : Bool) : Try.prog.built 7 [(1, (.int .i64 x1)), (2, (.bool x2))] = some #[(.int .i64 0), (.int .i64 x1), (.bool x2), (.int .u8 0)] := by kernel_rfl
theorem bt7_13 (x1 : Int) (x3 : Int) : Try.prog.built 7 [(1, (.int .i64 x1)), (3, (.int .u8 x3))] = some #[(.int .i64 0), (.int .i64 x1), (.bool false), (.int .u8 x3)] := by kernel_rfl
theorem bt7_23 (x2 : Bool) (x3 : Int) : Try.prog.built 7 [(2, (.bool x2)), (3, (.int .u8 x3))] = some #[(.int .i64 0), (.int .i64 0), (.bool x2), (.int .u8 x3)] := by kernel_rfl
theorem bt7_012 (x0 : Int) (x1 : Int) (x2 : Bool) : Try.prog.built 7 [(0, (.int .i64 x0)), (1, (.int .i64 x1)), (2, (.bool x2))] = some #[(.int .i64 x0), (.int .i64 x1), (.bool x2), (.int .u8 0)] := by kernel_rfl
theorem bt7_013 (x0 : Int) (x1 : Int) (x3 : Int) : Try.prog.built 7 [(0, (.int .i64 x0)), (1, (.int .i64 x1)), (3, (.int .u8 x3))] = some #[(.int .i64 x0), (.int .i64 x1), (.bool false), (.int .u8 x3)] := by kernel_rfl
theorem bt7_023 (x0 : Int) (x2 : Bool) (x3 : Int) : Try.prog.built 7 [(0, (.int .i64 x0)), (2, (.bool x2)), (3, (.int .u8 x3))] = some #[(.int .i64 x0), (.int .i64 0), (.bool x2), (.int .u8 x3)] := by kernel_rfl
theorem bt7_123 (x1 : Int) (x2 : Bool) (x3 : Int) : Try.prog.built 7 [(1, (.int .i64 x1)), (2, (.bool x2)), (3, (.int .u8 x3))] = some #[(.int .i64 0), (.int .i64 x1), (.bool x2), (.int .u8 x3)] := by kernel_rfl
theorem bt7_0123 (x0 : Int) (x1 : Int) (x2 : Bool) (x3 : Int) : Try.prog.built 7 [(0, (.int .i64 x0)), (1, (.int .i64 x1)), (2, (.bool x2)), (3, (.int .u8 x3))] = some #[(.int .i64 x0), (.int .i64 x1), (.bool x2), (.int .u8 x3)] := by kernel_rfl
theorem bt8_  : Try.prog.built 8 [] = some #[(.int .i64 0), (.int .i64 0), (.bool false), (.int .u8 0)] := by kernel_rfl
theorem bt8_0 (x0 : Int) : Try.prog.built 8 [(0, (.int .i64 x0))] = some #[(.int .i64 x0), (.int .i64 0), (.bool false), (.int .u8 0)] := by kernel_rfl
theorem bt8_1 (x1 : Int) : Try.prog.built 8 [(1, (.int .i64 x1))] = some #[(.int .i64 0), (.int .i64 x1), (.bool false), (.int .u8 0)] := by kernel_rfl
theorem bt8_2 (x2 : Bool) : Try.prog.built 8 [(2, (.bool x2))] = some #[(.int .i64 0), (.int .i64 0), (.bool x2), (.int .u8 0)] := by kernel_rfl
theorem bt8_3 (x3 : Int) : Try.prog.built 8 [(3, (.int .u8 x3))] = some #[(.int .i64 0), (.int .i64 0), (.bool false), (.int .u8 x3)] := by kernel_rfl
theorem bt8_01 (x0 : Int) (x1 : Int) : Try.prog.built 8 [(0, (.int .i64 x0)), (1, (.int .i64 x1))] = some #[(.int .i64 x0), (.int .i64 x1), (.bool false), (.int .u8 0)] := by kernel_rfl
theorem bt8_02 (x0 : Int) (x2 : Bool) : Try.prog.built 8 [(0, (.int .i64 x0)), (2, (.bool x2))] = some #[(.int .i64 x0), (.int .i64 0), (.bool x2), (.int .u8 0)] := by kernel_rfl
theorem bt8_03 (x0 : Int) (x3 : Int) : Try.prog.built 8 [(0, (.int .i64 x0)), (3, (.int .u8 x3))] = some #[(.int .i64 x0), (.int .i64 0), (.bool false), (.int .u8 x3)] := by kernel_rfl
theorem bt8_12 (x1 : Int) (x2 : Bool) : Try.prog.built 8 [(1, (.int .i64 x1)), (2, (.bool x2))] = some #[(.int .i64 0), (.int .i64 x1), (.bool x2), (.int .u8 0)] := by kernel_rfl
theorem bt8_13 (x1 : Int) (x3 : Int) : Try.prog.built 8 [(1, (.int .i64 x1)), (3, (.int .u8 x3))] = some #[(.int .i64 0), (.int .i64 x1), (.bool false), (.int .u8 x3)] := by kernel_rfl
theorem bt8_23 (x2 : Bool) (x3 : Int) : Try.prog.built 8 [(2, (.bool x2)), (3, (.int .u8 x3))] = some #[(.int .i64 0), (.int .i64 0), (.bool x2), (.int .u8 x3)] := by kernel_rfl
theorem bt8_012 (x0 : Int) (x1 : Int) (x2 : Bool) : Try.prog.built 8 [(0, (.int .i64 x0)), (1, (.int .i64 x1)), (2, (.bool x2))] = some #[(.int .i64 x0), (.int .i64 x1), (.bool x2), (.int .u8 0)] := by kernel_rfl
theorem bt8_013 (x0 : Int) (x1 : Int) (x3 : Int) : Try.prog.built 8 [(0, (.int .i64 x0)), (1, (.int .i64 x1)), (3, (.int .u8 x3))] = some #[(.int .i64 x0), (.int .i64 x1), (.bool false), (.int .u8 x3)] := by kernel_rfl
theorem bt8_023 (x0 : Int) (x2 : Bool) (x3 : Int) : Try.prog.built 8 [(0, (.int .i64 x0)), (2, (.bool x2)), (3, (.int .u8 x3))] = some #[(.int .i64 x0), (.int .i64 0), (.bool x2), (.int .u8 x3)] := by kernel_rfl
theorem bt8_123 (x1 : Int) (x2 : Bool) (x3 : Int) : Try.prog.built 8 [(1, (.int .i64 x1)), (2, (.bool x2)), (3, (.int .u8 x3))] = some #[(.int .i64 0), (.int .i64 x1), (.bool x2), (.int .u8 x3)] := by kernel_rfl
theorem bt8_0123 (x0 : Int) (x1 : Int) (x2 : Bool) (x3 : Int) : Try.prog.built 8 [(0, (.int .i64 x0)), (1, (.int .i64 x1)), (2, (.bool x2)), (3, (.int .u8 x3))] = some #[(.int .i64 x0), (.int .i64 x1), (.bool x2), (.int .u8 x3)] := by kernel_rfl
theorem bt13_  : Try.prog.built 13 [] = some #[(.string ⟨#[]⟩), (.int .u64 0)] := by kernel_rfl
theorem bt13_0 (x0 : ByteArray) : Try.prog.built 13 [(0, (.string x0))] = some #[(.string x0), (.int .u64 0)] := by kernel_rfl
theorem bt13_1 (x1 : Int) : Try.prog.built 13 [(1, (.int .u64 x1))] = some #[(.string ⟨#[]⟩), (.int .u64 x1)] := by kernel_rfl
theorem bt13_01 (x0 : ByteArray) (x1 : Int) : Try.prog.built 13 [(0, (.string x0)), (1, (.int .u64 x1))] = some #[(.string x0), (.int .u64 x1)] := by kernel_rfl
theorem bt14_  : Try.prog.built 14 [] = some #[(.string ⟨#[]⟩), (.int .u64 0)] := by kernel_rfl
theorem bt14_0 (x0 : ByteArray) : Try.prog.built 14 [(0, (.string x0))] = some #[(.string x0), (.int .u64 0)] := by kernel_rfl
theorem bt14_1 (x1 : Int) : Try.prog.built 14 [(1, (.int .u64 x1))] = some #[(.string ⟨#[]⟩), (.int .u64 x1)] := by kernel_rfl
theorem bt14_01 (x0 : ByteArray) (x1 : Int) : Try.prog.built 14 [(0, (.string x0)), (1, (.int .u64 x1))] = some #[(.string x0), (.int .u64 x1)] := by kernel_rfl
theorem bt18_  : Try.prog.built 18 [] = some #[(.pointer none)] := by kernel_rfl
theorem bt18_0 (x0 : Option Addr) : Try.prog.built 18 [(0, (.pointer x0))] = some #[(.pointer x0)] := by kernel_rfl
theorem bt19_  : Try.prog.built 19 [] = some #[(.pointer none)] := by kernel_rfl
theorem bt19_0 (x0 : Option Addr) : Try.prog.built 19 [(0, (.pointer x0))] = some #[(.pointer x0)] := by kernel_rfl
theorem bs92_0  : builtSl Try.prog 92 0 [] = some #[] := by kernel_rfl
theorem bs92_1 (v0_0 v0_1 v0_2 : Value) : builtSl Try.prog 92 1 [(0, (.agg #[v0_0, v0_1, v0_2]))] = some #[v0_0, v0_1, v0_2] := by kernel_rfl
theorem bs92_2 (v0_0 v0_1 v0_2 : Value) (v1_0 v1_1 v1_2 : Value) : builtSl Try.prog 92 2 [(0, (.agg #[v0_0, v0_1, v0_2])), (1, (.agg #[v1_0, v1_1, v1_2]))] = some #[v0_0, v0_1, v0_2, v1_0, v1_1, v1_2] := by kernel_rfl
theorem bs92_3 (v0_0 v0_1 v0_2 : Value) (v1_0 v1_1 v1_2 : Value) (v2_0 v2_1 v2_2 : Value) : builtSl Try.prog 92 3 [(0, (.agg #[v0_0, v0_1, v0_2])), (1, (.agg #[v1_0, v1_1, v1_2])), (2, (.agg #[v2_0, v2_1, v2_2]))] = some #[v0_0, v0_1, v0_2, v1_0, v1_1, v1_2, v2_0, v2_1, v2_2] := by kernel_rfl
theorem bs92_4 (v0_0 v0_1 v0_2 : Value) (v1_0 v1_1 v1_2 : Value) (v2_0 v2_1 v2_2 : Value) (v3_0 v3_1 v3_2 : Value) : builtSl Try.prog 92 4 [(0, (.agg #[v0_0, v0_1, v0_2])), (1, (.agg #[v1_0, v1_1, v1_2])), (2, (.agg #[v2_0, v2_1, v2_2])), (3, (.agg #[v3_0, v3_1, v3_2]))] = some #[v0_0, v0_1, v0_2, v1_0, v1_1, v1_2, v2_0, v2_1, v2_2, v3_0, v3_1, v3_2] := by kernel_rfl
theorem bs92_5 (v0_0 v0_1 v0_2 : Value) (v1_0 v1_1 v1_2 : Value) (v2_0 v2_1 v2_2 : Value) (v3_0 v3_1 v3_2 : Value) (v4_0 v4_1 v4_2 : Value) : builtSl Try.prog 92 5 [(0, (.agg #[v0_0, v0_1, v0_2])), (1, (.agg #[v1_0, v1_1, v1_2])), (2, (.agg #[v2_0, v2_1, v2_2])), (3, (.agg #[v3_0, v3_1, v3_2])), (4, (.agg #[v4_0, v4_1, v4_2]))] = some #[v0_0, v0_1, v0_2, v1_0, v1_1, v1_2, v2_0, v2_1, v2_2, v3_0, v3_1, v3_2, v4_0, v4_1, v4_2] := by kernel_rfl
theorem bs92_6 (v0_0 v0_1 v0_2 : Value) (v1_0 v1_1 v1_2 : Value) (v2_0 v2_1 v2_2 : Value) (v3_0 v3_1 v3_2 : Value) (v4_0 v4_1 v4_2 : Value) (v5_0 v5_1 v5_2 : Value) : builtSl Try.prog 92 6 [(0, (.agg #[v0_0, v0_1, v0_2])), (1, (.agg #[v1_0, v1_1, v1_2])), (2, (.agg #[v2_0, v2_1, v2_2])), (3, (.agg #[v3_0, v3_1, v3_2])), (4, (.agg #[v4_0, v4_1, v4_2])), (5, (.agg #[v5_0, v5_1, v5_2]))] = some #[v0_0, v0_1, v0_2, v1_0, v1_1, v1_2, v2_0, v2_1, v2_2, v3_0, v3_1, v3_2, v4_0, v4_1, v4_2, v5_0, v5_1, v5_2] := by kernel_rfl
theorem bt23_  : Try.prog.built 23 [] = some #[(.int .i64 0), (.slice none 0 0), (.slice none 0 0)] := by kernel_rfl
theorem bt23_0 (x0 : Int) : Try.prog.built 23 [(0, (.int .i64 x0))] = some #[(.int .i64 x0), (.slice none 0 0), (.slice none 0 0)] := by kernel_rfl
theorem bt23_1 (a1 : Option Addr) (n1 c1 : Nat) : Try.prog.built 23 [(1, (.slice a1 n1 c1))] = some #[(.int .i64 0), (.slice a1 n1 c1), (.slice none 0 0)] := by kernel_rfl
theorem bt23_2 (a2 : Option Addr) (n2 c2 : Nat) : Try.prog.built 23 [(2, (.slice a2 n2 c2))] = some #[(.int .i64 0), (.slice none 0 0), (.slice a2 n2 c2)] := by kernel_rfl
theorem bt23_01 (x0 : Int) (a1 : Option Addr) (n1 c1 : Nat) : Try.prog.built 23 [(0, (.int .i64 x0)), (1, (.slice a1 n1 c1))] = some #[(.int .i64 x0), (.slice a1 n1 c1), (.slice none 0 0)] := by kernel_rfl
theorem bt23_02 (x0 : Int) (a2 : Option Addr) (n2 c2 : Nat) : Try.prog.built 23 [(0, (.int .i64 x0)), (2, (.slice a2 n2 c2))] = some #[(.int .i64 x0), (.slice none 0 0), (.slice a2 n2 c2)] := by kernel_rfl
theorem bt23_12 (a1 : Option Addr) (n1 c1 : Nat) (a2 : Option Addr) (n2 c2 : Nat) : Try.prog.built 23 [(1, (.slice a1 n1 c1)), (2, (.slice a2 n2 c2))] = some #[(.int .i64 0), (.slice a1 n1 c1), (.slice a2 n2 c2)] := by kernel_rfl
theorem bt23_012 (x0 : Int) (a1 : Option Addr) (n1 c1 : Nat) (a2 : Option Addr) (n2 c2 : Nat) : Try.prog.built 23 [(0, (.int .i64 x0)), (1, (.slice a1 n1 c1)), (2, (.slice a2 n2 c2))] = some #[(.int .i64 x0), (.slice a1 n1 c1), (.slice a2 n2 c2)] := by kernel_rfl
theorem bt24_  : Try.prog.built 24 [] = some #[(.int .i64 0), (.slice none 0 0), (.slice none 0 0)] := by kernel_rfl
theorem bt24_0 (x0 : Int) : Try.prog.built 24 [(0, (.int .i64 x0))] = some #[(.int .i64 x0), (.slice none 0 0), (.slice none 0 0)] := by kernel_rfl
theorem bt24_1 (a1 : Option Addr) (n1 c1 : Nat) : Try.prog.built 24 [(1, (.slice a1 n1 c1))] = some #[(.int .i64 0), (.slice a1 n1 c1), (.slice none 0 0)] := by kernel_rfl
theorem bt24_2 (a2 : Option Addr) (n2 c2 : Nat) : Try.prog.built 24 [(2, (.slice a2 n2 c2))] = some #[(.int .i64 0), (.slice none 0 0), (.slice a2 n2 c2)] := by kernel_rfl
theorem bt24_01 (x0 : Int) (a1 : Option Addr) (n1 c1 : Nat) : Try.prog.built 24 [(0, (.int .i64 x0)), (1, (.slice a1 n1 c1))] = some #[(.int .i64 x0), (.slice a1 n1 c1), (.slice none 0 0)] := by kernel_rfl
theorem bt24_02 (x0 : Int) (a2 : Option Addr) (n2 c2 : Nat) : Try.prog.built 24 [(0, (.int .i64 x0)), (2, (.slice a2 n2 c2))] = some #[(.int .i64 x0), (.slice none 0 0), (.slice a2 n2 c2)] := by kernel_rfl
theorem bt24_12 (a1 : Option Addr) (n1 c1 : Nat) (a2 : Option Addr) (n2 c2 : Nat) : Try.prog.built 24 [(1, (.slice a1 n1 c1)), (2, (.slice a2 n2 c2))] = some #[(.int .i64 0), (.slice a1 n1 c1), (.slice a2 n2 c2)] := by kernel_rfl
theorem bt24_012 (x0 : Int) (a1 : Option Addr) (n1 c1 : Nat) (a2 : Option Addr) (n2 c2 : Nat) : Try.prog.built 24 [(0, (.int .i64 x0)), (1, (.slice a1 n1 c1)), (2, (.slice a2 n2 c2))] = some #[(.int .i64 x0), (.slice a1 n1 c1), (.slice a2 n2 c2)] := by kernel_rfl
theorem bs93_0  : builtSl Try.prog 93 0 [] = some #[] := by kernel_rfl
theorem bs93_1 (v0_0 v0_1 v0_2 : Value) : builtSl Try.prog 93 1 [(0, (.agg #[v0_0, v0_1, v0_2]))] = some #[v0_0, v0_1, v0_2] := by kernel_rfl
theorem bs93_2 (v0_0 v0_1 v0_2 : Value) (v1_0 v1_1 v1_2 : Value) : builtSl Try.prog 93 2 [(0, (.agg #[v0_0, v0_1, v0_2])), (1, (.agg #[v1_0, v1_1, v1_2]))] = some #[v0_0, v0_1, v0_2, v1_0, v1_1, v1_2] := by kernel_rfl
theorem bs93_3 (v0_0 v0_1 v0_2 : Value) (v1_0 v1_1 v1_2 : Value) (v2_0 v2_1 v2_2 : Value) : builtSl Try.prog 93 3 [(0, (.agg #[v0_0, v0_1, v0_2])), (1, (.agg #[v1_0, v1_1, v1_2])), (2, (.agg #[v2_0, v2_1, v2_2]))] = some #[v0_0, v0_1, v0_2, v1_0, v1_1, v1_2, v2_0, v2_1, v2_2] := by kernel_rfl
theorem bs93_4 (v0_0 v0_1 v0_2 : Value) (v1_0 v1_1 v1_2 : Value) (v2_0 v2_1 v2_2 : Value) (v3_0 v3_1 v3_2 : Value) : builtSl Try.prog 93 4 [(0, (.agg #[v0_0, v0_1, v0_2])), (1, (.agg #[v1_0, v1_1, v1_2])), (2, (.agg #[v2_0, v2_1, v2_2])), (3, (.agg #[v3_0, v3_1, v3_2]))] = some #[v0_0, v0_1, v0_2, v1_0, v1_1, v1_2, v2_0, v2_1, v2_2, v3_0, v3_1, v3_2] := by kernel_rfl
theorem bs93_5 (v0_0 v0_1 v0_2 : Value) (v1_0 v1_1 v1_2 : Value) (v2_0 v2_1 v2_2 : Value) (v3_0 v3_1 v3_2 : Value) (v4_0 v4_1 v4_2 : Value) : builtSl Try.prog 93 5 [(0, (.agg #[v0_0, v0_1, v0_2])), (1, (.agg #[v1_0, v1_1, v1_2])), (2, (.agg #[v2_0, v2_1, v2_2])), (3, (.agg #[v3_0, v3_1, v3_2])), (4, (.agg #[v4_0, v4_1, v4_2]))] = some #[v0_0, v0_1, v0_2, v1_0, v1_1, v1_2, v2_0, v2_1, v2_2, v3_0, v3_1, v3_2, v4_0, v4_1, v4_2] := by kernel_rfl
theorem bs93_6 (v0_0 v0_1 v0_2 : Value) (v1_0 v1_1 v1_2 : Value) (v2_0 v2_1 v2_2 : Value) (v3_0 v3_1 v3_2 : Value) (v4_0 v4_1 v4_2 : Value) (v5_0 v5_1 v5_2 : Value) : builtSl Try.prog 93 6 [(0, (.agg #[v0_0, v0_1, v0_2])), (1, (.agg #[v1_0, v1_1, v1_2])), (2, (.agg #[v2_0, v2_1, v2_2])), (3, (.agg #[v3_0, v3_1, v3_2])), (4, (.agg #[v4_0, v4_1, v4_2])), (5, (.agg #[v5_0, v5_1, v5_2]))] = some #[v0_0, v0_1, v0_2, v1_0, v1_1, v1_2, v2_0, v2_1, v2_2, v3_0, v3_1, v3_2, v4_0, v4_1, v4_2, v5_0, v5_1, v5_2] := by kernel_rfl
theorem bt29_  : Try.prog.built 29 [] = some #[(.int .i64 0), (.slice none 0 0), (.slice none 0 0)] := by kernel_rfl
theorem bt29_0 (x0 : Int) : Try.prog.built 29 [(0, (.int .i64 x0))] = some #[(.int .i64 x0), (.slice none 0 0), (.slice none 0 0)] := by kernel_rfl
theorem bt29_1 (a1 : Option Addr) (n1 c1 : Nat) : Try.prog.built 29 [(1, (.slice a1 n1 c1))] = some #[(.int .i64 0), (.slice a1 n1 c1), (.slice none 0 0)] := by kernel_rfl
theorem bt29_2 (a2 : Option Addr) (n2 c2 : Nat) : Try.prog.built 29 [(2, (.slice a2 n2 c2))] = some #[(.int .i64 0), (.slice none 0 0), (.slice a2 n2 c2)] := by kernel_rfl
theorem bt29_01 (x0 : Int) (a1 : Option Addr) (n1 c1 : Nat) : Try.prog.built 29 [(0, (.int .i64 x0)), (1, (.slice a1 n1 c1))] = some #[(.int .i64 x0), (.slice a1 n1 c1), (.slice none 0 0)] := by kernel_rfl
theorem bt29_02 (x0 : Int) (a2 : Option Addr) (n2 c2 : Nat) : Try.prog.built 29 [(0, (.int .i64 x0)), (2, (.slice a2 n2 c2))] = some #[(.int .i64 x0), (.slice none 0 0), (.slice a2 n2 c2)] := by kernel_rfl
theorem bt29_12 (a1 : Option Addr) (n1 c1 : Nat) (a2 : Option Addr) (n2 c2 : Nat) : Try.prog.built 29 [(1, (.slice a1 n1 c1)), (2, (.slice a2 n2 c2))] = some #[(.int .i64 0), (.slice a1 n1 c1), (.slice a2 n2 c2)] := by kernel_rfl
theorem bt29_012 (x0 : Int) (a1 : Option Addr) (n1 c1 : Nat) (a2 : Option Addr) (n2 c2 : Nat) : Try.prog.built 29 [(0, (.int .i64 x0)), (1, (.slice a1 n1 c1)), (2, (.slice a2 n2 c2))] = some #[(.int .i64 x0), (.slice a1 n1 c1), (.slice a2 n2 c2)] := by kernel_rfl
theorem bt30_  : Try.prog.built 30 [] = some #[(.int .i64 0), (.slice none 0 0), (.slice none 0 0)] := by kernel_rfl
theorem bt30_0 (x0 : Int) : Try.prog.built 30 [(0, (.int .i64 x0))] = some #[(.int .i64 x0), (.slice none 0 0), (.slice none 0 0)] := by kernel_rfl
theorem bt30_1 (a1 : Option Addr) (n1 c1 : Nat) : Try.prog.built 30 [(1, (.slice a1 n1 c1))] = some #[(.int .i64 0), (.slice a1 n1 c1), (.slice none 0 0)] := by kernel_rfl
theorem bt30_2 (a2 : Option Addr) (n2 c2 : Nat) : Try.prog.built 30 [(2, (.slice a2 n2 c2))] = some #[(.int .i64 0), (.slice none 0 0), (.slice a2 n2 c2)] := by kernel_rfl
theorem bt30_01 (x0 : Int) (a1 : Option Addr) (n1 c1 : Nat) : Try.prog.built 30 [(0, (.int .i64 x0)), (1, (.slice a1 n1 c1))] = some #[(.int .i64 x0), (.slice a1 n1 c1), (.slice none 0 0)] := by kernel_rfl
theorem bt30_02 (x0 : Int) (a2 : Option Addr) (n2 c2 : Nat) : Try.prog.built 30 [(0, (.int .i64 x0)), (2, (.slice a2 n2 c2))] = some #[(.int .i64 x0), (.slice none 0 0), (.slice a2 n2 c2)] := by kernel_rfl
theorem bt30_12 (a1 : Option Addr) (n1 c1 : Nat) (a2 : Option Addr) (n2 c2 : Nat) : Try.prog.built 30 [(1, (.slice a1 n1 c1)), (2, (.slice a2 n2 c2))] = some #[(.int .i64 0), (.slice a1 n1 c1), (.slice a2 n2 c2)] := by kernel_rfl
theorem bt30_012 (x0 : Int) (a1 : Option Addr) (n1 c1 : Nat) (a2 : Option Addr) (n2 c2 : Nat) : Try.prog.built 30 [(0, (.int .i64 x0)), (1, (.slice a1 n1 c1)), (2, (.slice a2 n2 c2))] = some #[(.int .i64 x0), (.slice a1 n1 c1), (.slice a2 n2 c2)] := by kernel_rfl
theorem bt34_  : Try.prog.built 34 [] = some #[(.int .i64 0), (.slice none 0 0)] := by kernel_rfl
theorem bt34_0 (x0 : Int) : Try.prog.built 34 [(0, (.int .i64 x0))] = some #[(.int .i64 x0), (.slice none 0 0)] := by kernel_rfl
theorem bt34_1 (a1 : Option Addr) (n1 c1 : Nat) : Try.prog.built 34 [(1, (.slice a1 n1 c1))] = some #[(.int .i64 0), (.slice a1 n1 c1)] := by kernel_rfl
theorem bt34_01 (x0 : Int) (a1 : Option Addr) (n1 c1 : Nat) : Try.prog.built 34 [(0, (.int .i64 x0)), (1, (.slice a1 n1 c1))] = some #[(.int .i64 x0), (.slice a1 n1 c1)] := by kernel_rfl
theorem bt35_  : Try.prog.built 35 [] = some #[(.int .i64 0), (.slice none 0 0)] := by kernel_rfl
theorem bt35_0 (x0 : Int) : Try.prog.built 35 [(0, (.int .i64 x0))] = some #[(.int .i64 x0), (.slice none 0 0)] := by kernel_rfl
theorem bt35_1 (a1 : Option Addr) (n1 c1 : Nat) : Try.prog.built 35 [(1, (.slice a1 n1 c1))] = some #[(.int .i64 0), (.slice a1 n1 c1)] := by kernel_rfl
theorem bt35_01 (x0 : Int) (a1 : Option Addr) (n1 c1 : Nat) : Try.prog.built 35 [(0, (.int .i64 x0)), (1, (.slice a1 n1 c1))] = some #[(.int .i64 x0), (.slice a1 n1 c1)] := by kernel_rfl
theorem bt37_  : Try.prog.built 37 [] = some #[(.int .i64 0), (.slice none 0 0)] := by kernel_rfl
theorem bt37_0 (x0 : Int) : Try.prog.built 37 [(0, (.int .i64 x0))] = some #[(.int .i64 x0), (.slice none 0 0)] := by kernel_rfl
theorem bt37_1 (a1 : Option Addr) (n1 c1 : Nat) : Try.prog.built 37 [(1, (.slice a1 n1 c1))] = some #[(.int .i64 0), (.slice a1 n1 c1)] := by kernel_rfl
theorem bt37_01 (x0 : Int) (a1 : Option Addr) (n1 c1 : Nat) : Try.prog.built 37 [(0, (.int .i64 x0)), (1, (.slice a1 n1 c1))] = some #[(.int .i64 x0), (.slice a1 n1 c1)] := by kernel_rfl
theorem bt38_  : Try.prog.built 38 [] = some #[(.int .i64 0), (.slice none 0 0)] := by kernel_rfl
theorem bt38_0 (x0 : Int) : Try.prog.built 38 [(0, (.int .i64 x0))] = some #[(.int .i64 x0), (.slice none 0 0)] := by kernel_rfl
theorem bt38_1 (a1 : Option Addr) (n1 c1 : Nat) : Try.prog.built 38 [(1, (.slice a1 n1 c1))] = some #[(.int .i64 0), (.slice a1 n1 c1)] := by kernel_rfl
theorem bt38_01 (x0 : Int) (a1 : Option Addr) (n1 c1 : Nat) : Try.prog.built 38 [(0, (.int .i64 x0)), (1, (.slice a1 n1 c1))] = some #[(.int .i64 x0), (.slice a1 n1 c1)] := by kernel_rfl
theorem bs30_0  : builtSl Try.prog 30 0 [] = some #[] := by kernel_rfl
theorem bs30_1 (v0_0 v0_1 v0_2 : Value) : builtSl Try.prog 30 1 [(0, (.agg #[v0_0, v0_1, v0_2]))] = some #[v0_0, v0_1, v0_2] := by kernel_rfl
theorem bs30_2 (v0_0 v0_1 v0_2 : Value) (v1_0 v1_1 v1_2 : Value) : builtSl Try.prog 30 2 [(0, (.agg #[v0_0, v0_1, v0_2])), (1, (.agg #[v1_0, v1_1, v1_2]))] = some #[v0_0, v0_1, v0_2, v1_0, v1_1, v1_2] := by kernel_rfl
theorem bs30_3 (v0_0 v0_1 v0_2 : Value) (v1_0 v1_1 v1_2 : Value) (v2_0 v2_1 v2_2 : Value) : builtSl Try.prog 30 3 [(0, (.agg #[v0_0, v0_1, v0_2])), (1, (.agg #[v1_0, v1_1, v1_2])), (2, (.agg #[v2_0, v2_1, v2_2]))] = some #[v0_0, v0_1, v0_2, v1_0, v1_1, v1_2, v2_0, v2_1, v2_2] := by kernel_rfl
theorem bs30_4 (v0_0 v0_1 v0_2 : Value) (v1_0 v1_1 v1_2 : Value) (v2_0 v2_1 v2_2 : Value) (v3_0 v3_1 v3_2 : Value) : builtSl Try.prog 30 4 [(0, (.agg #[v0_0, v0_1, v0_2])), (1, (.agg #[v1_0, v1_1, v1_2])), (2, (.agg #[v2_0, v2_1, v2_2])), (3, (.agg #[v3_0, v3_1, v3_2]))] = some #[v0_0, v0_1, v0_2, v1_0, v1_1, v1_2, v2_0, v2_1, v2_2, v3_0, v3_1, v3_2] := by kernel_rfl
theorem bs30_5 (v0_0 v0_1 v0_2 : Value) (v1_0 v1_1 v1_2 : Value) (v2_0 v2_1 v2_2 : Value) (v3_0 v3_1 v3_2 : Value) (v4_0 v4_1 v4_2 : Value) : builtSl Try.prog 30 5 [(0, (.agg #[v0_0, v0_1, v0_2])), (1, (.agg #[v1_0, v1_1, v1_2])), (2, (.agg #[v2_0, v2_1, v2_2])), (3, (.agg #[v3_0, v3_1, v3_2])), (4, (.agg #[v4_0, v4_1, v4_2]))] = some #[v0_0, v0_1, v0_2, v1_0, v1_1, v1_2, v2_0, v2_1, v2_2, v3_0, v3_1, v3_2, v4_0, v4_1, v4_2] := by kernel_rfl
theorem bs30_6 (v0_0 v0_1 v0_2 : Value) (v1_0 v1_1 v1_2 : Value) (v2_0 v2_1 v2_2 : Value) (v3_0 v3_1 v3_2 : Value) (v4_0 v4_1 v4_2 : Value) (v5_0 v5_1 v5_2 : Value) : builtSl Try.prog 30 6 [(0, (.agg #[v0_0, v0_1, v0_2])), (1, (.agg #[v1_0, v1_1, v1_2])), (2, (.agg #[v2_0, v2_1, v2_2])), (3, (.agg #[v3_0, v3_1, v3_2])), (4, (.agg #[v4_0, v4_1, v4_2])), (5, (.agg #[v5_0, v5_1, v5_2]))] = some #[v0_0, v0_1, v0_2, v1_0, v1_1, v1_2, v2_0, v2_1, v2_2, v3_0, v3_1, v3_2, v4_0, v4_1, v4_2, v5_0, v5_1, v5_2] := by kernel_rfl
theorem bs56_0  : builtSl Try.prog 56 0 [] = some #[] := by kernel_rfl
theorem bs56_1 (a0 : Option Addr) (n0 c0 : Nat) : builtSl Try.prog 56 1 [(0, (.slice a0 n0 c0))] = some #[(.slice a0 n0 c0)] := by kernel_rfl
theorem bs56_2 (a0 : Option Addr) (n0 c0 : Nat) (a1 : Option Addr) (n1 c1 : Nat) : builtSl Try.prog 56 2 [(0, (.slice a0 n0 c0)), (1, (.slice a1 n1 c1))] = some #[(.slice a0 n0 c0), (.slice a1 n1 c1)] := by kernel_rfl
theorem bs56_3 (a0 : Option Addr) (n0 c0 : Nat) (a1 : Option Addr) (n1 c1 : Nat) (a2 : Option Addr) (n2 c2 : Nat) : builtSl Try.prog 56 3 [(0, (.slice a0 n0 c0)), (1, (.slice a1 n1 c1)), (2, (.slice a2 n2 c2))] = some #[(.slice a0 n0 c0), (.slice a1 n1 c1), (.slice a2 n2 c2)] := by kernel_rfl
theorem bs56_4 (a0 : Option Addr) (n0 c0 : Nat) (a1 : Option Addr) (n1 c1 : Nat) (a2 : Option Addr) (n2 c2 : Nat) (a3 : Option Addr) (n3 c3 : Nat) : builtSl Try.prog 56 4 [(0, (.slice a0 n0 c0)), (1, (.slice a1 n1 c1)), (2, (.slice a2 n2 c2)), (3, (.slice a3 n3 c3))] = some #[(.slice a0 n0 c0), (.slice a1 n1 c1), (.slice a2 n2 c2), (.slice a3 n3 c3)] := by kernel_rfl
theorem bs56_5 (a0 : Option Addr) (n0 c0 : Nat) (a1 : Option Addr) (n1 c1 : Nat) (a2 : Option Addr) (n2 c2 : Nat) (a3 : Option Addr) (n3 c3 : Nat) (a4 : Option Addr) (n4 c4 : Nat) : builtSl Try.prog 56 5 [(0, (.slice a0 n0 c0)), (1, (.slice a1 n1 c1)), (2, (.slice a2 n2 c2)), (3, (.slice a3 n3 c3)), (4, (.slice a4 n4 c4))] = some #[(.slice a0 n0 c0), (.slice a1 n1 c1), (.slice a2 n2 c2), (.slice a3 n3 c3), (.slice a4 n4 c4)] := by kernel_rfl
theorem bs56_6 (a0 : Option Addr) (n0 c0 : Nat) (a1 : Option Addr) (n1 c1 : Nat) (a2 : Option Addr) (n2 c2 : Nat) (a3 : Option Addr) (n3 c3 : Nat) (a4 : Option Addr) (n4 c4 : Nat) (a5 : Option Addr) (n5 c5 : Nat) : builtSl Try.prog 56 6 [(0, (.slice a0 n0 c0)), (1, (.slice a1 n1 c1)), (2, (.slice a2 n2 c2)), (3, (.slice a3 n3 c3)), (4, (.slice a4 n4 c4)), (5, (.slice a5 n5 c5))] = some #[(.slice a0 n0 c0), (.slice a1 n1 c1), (.slice a2 n2 c2), (.slice a3 n3 c3), (.slice a4 n4 c4), (.slice a5 n5 c5)] := by kernel_rfl
theorem bs2_0  : builtSl Try.prog 2 0 [] = some #[] := by kernel_rfl
theorem bs2_1 (x0 : Int) : builtSl Try.prog 2 1 [(0, (.int .i64 x0))] = some #[(.int .i64 x0)] := by kernel_rfl
theorem bs2_2 (x0 : Int) (x1 : Int) : builtSl Try.prog 2 2 [(0, (.int .i64 x0)), (1, (.int .i64 x1))] = some #[(.int .i64 x0), (.int .i64 x1)] := by kernel_rfl
theorem bs2_3 (x0 : Int) (x1 : Int) (x2 : Int) : builtSl Try.prog 2 3 [(0, (.int .i64 x0)), (1, (.int .i64 x1)), (2, (.int .i64 x2))] = some #[(.int .i64 x0), (.int .i64 x1), (.int .i64 x2)] := by kernel_rfl
theorem bs2_4 (x0 : Int) (x1 : Int) (x2 : Int) (x3 : Int) : builtSl Try.prog 2 4 [(0, (.int .i64 x0)), (1, (.int .i64 x1)), (2, (.int .i64 x2)), (3, (.int .i64 x3))] = some #[(.int .i64 x0), (.int .i64 x1), (.int .i64 x2), (.int .i64 x3)] := by kernel_rfl
theorem bs2_5 (x0 : Int) (x1 : Int) (x2 : Int) (x3 : Int) (x4 : Int) : builtSl Try.prog 2 5 [(0, (.int .i64 x0)), (1, (.int .i64 x1)), (2, (.int .i64 x2)), (3, (.int .i64 x3)), (4, (.int .i64 x4))] = some #[(.int .i64 x0), (.int .i64 x1), (.int .i64 x2), (.int .i64 x3), (.int .i64 x4)] := by kernel_rfl
theorem bs2_6 (x0 : Int) (x1 : Int) (x2 : Int) (x3 : Int) (x4 : Int) (x5 : Int) : builtSl Try.prog 2 6 [(0, (.int .i64 x0)), (1, (.int .i64 x1)), (2, (.int .i64 x2)), (3, (.int .i64 x3)), (4, (.int .i64 x4)), (5, (.int .i64 x5))] = some #[(.int .i64 x0), (.int .i64 x1), (.int .i64 x2), (.int .i64 x3), (.int .i64 x4), (.int .i64 x5)] := by kernel_rfl
theorem bs51_0  : builtSl Try.prog 51 0 [] = some #[] := by kernel_rfl
theorem bs51_1 (a0 : Option Addr) (n0 c0 : Nat) : builtSl Try.prog 51 1 [(0, (.slice a0 n0 c0))] = some #[(.slice a0 n0 c0)] := by kernel_rfl
theorem bs51_2 (a0 : Option Addr) (n0 c0 : Nat) (a1 : Option Addr) (n1 c1 : Nat) : builtSl Try.prog 51 2 [(0, (.slice a0 n0 c0)), (1, (.slice a1 n1 c1))] = some #[(.slice a0 n0 c0), (.slice a1 n1 c1)] := by kernel_rfl
theorem bs51_3 (a0 : Option Addr) (n0 c0 : Nat) (a1 : Option Addr) (n1 c1 : Nat) (a2 : Option Addr) (n2 c2 : Nat) : builtSl Try.prog 51 3 [(0, (.slice a0 n0 c0)), (1, (.slice a1 n1 c1)), (2, (.slice a2 n2 c2))] = some #[(.slice a0 n0 c0), (.slice a1 n1 c1), (.slice a2 n2 c2)] := by kernel_rfl
theorem bs51_4 (a0 : Option Addr) (n0 c0 : Nat) (a1 : Option Addr) (n1 c1 : Nat) (a2 : Option Addr) (n2 c2 : Nat) (a3 : Option Addr) (n3 c3 : Nat) : builtSl Try.prog 51 4 [(0, (.slice a0 n0 c0)), (1, (.slice a1 n1 c1)), (2, (.slice a2 n2 c2)), (3, (.slice a3 n3 c3))] = some #[(.slice a0 n0 c0), (.slice a1 n1 c1), (.slice a2 n2 c2), (.slice a3 n3 c3)] := by kernel_rfl
theorem bs51_5 (a0 : Option Addr) (n0 c0 : Nat) (a1 : Option Addr) (n1 c1 : Nat) (a2 : Option Addr) (n2 c2 : Nat) (a3 : Option Addr) (n3 c3 : Nat) (a4 : Option Addr) (n4 c4 : Nat) : builtSl Try.prog 51 5 [(0, (.slice a0 n0 c0)), (1, (.slice a1 n1 c1)), (2, (.slice a2 n2 c2)), (3, (.slice a3 n3 c3)), (4, (.slice a4 n4 c4))] = some #[(.slice a0 n0 c0), (.slice a1 n1 c1), (.slice a2 n2 c2), (.slice a3 n3 c3), (.slice a4 n4 c4)] := by kernel_rfl
theorem bs51_6 (a0 : Option Addr) (n0 c0 : Nat) (a1 : Option Addr) (n1 c1 : Nat) (a2 : Option Addr) (n2 c2 : Nat) (a3 : Option Addr) (n3 c3 : Nat) (a4 : Option Addr) (n4 c4 : Nat) (a5 : Option Addr) (n5 c5 : Nat) : builtSl Try.prog 51 6 [(0, (.slice a0 n0 c0)), (1, (.slice a1 n1 c1)), (2, (.slice a2 n2 c2)), (3, (.slice a3 n3 c3)), (4, (.slice a4 n4 c4)), (5, (.slice a5 n5 c5))] = some #[(.slice a0 n0 c0), (.slice a1 n1 c1), (.slice a2 n2 c2), (.slice a3 n3 c3), (.slice a4 n4 c4), (.slice a5 n5 c5)] := by kernel_rfl
theorem bt92_  : Try.prog.built 92 [] = some #[(.int .i64 0), (.int .i64 0), (.int .i64 0)] := by kernel_rfl
theorem bt92_0 (x0 : Int) : Try.prog.built 92 [(0, (.int .i64 x0))] = some #[(.int .i64 x0), (.int .i64 0), (.int .i64 0)] := by kernel_rfl
theorem bt92_1 (x1 : Int) : Try.prog.built 92 [(1, (.int .i64 x1))] = some #[(.int .i64 0), (.int .i64 x1), (.int .i64 0)] := by kernel_rfl
theorem bt92_2 (x2 : Int) : Try.prog.built 92 [(2, (.int .i64 x2))] = some #[(.int .i64 0), (.int .i64 0), (.int .i64 x2)] := by kernel_rfl
theorem bt92_01 (x0 : Int) (x1 : Int) : Try.prog.built 92 [(0, (.int .i64 x0)), (1, (.int .i64 x1))] = some #[(.int .i64 x0), (.int .i64 x1), (.int .i64 0)] := by kernel_rfl
theorem bt92_02 (x0 : Int) (x2 : Int) : Try.prog.built 92 [(0, (.int .i64 x0)), (2, (.int .i64 x2))] = some #[(.int .i64 x0), (.int .i64 0), (.int .i64 x2)] := by kernel_rfl
theorem bt92_12 (x1 : Int) (x2 : Int) : Try.prog.built 92 [(1, (.int .i64 x1)), (2, (.int .i64 x2))] = some #[(.int .i64 0), (.int .i64 x1), (.int .i64 x2)] := by kernel_rfl
theorem bt92_012 (x0 : Int) (x1 : Int) (x2 : Int) : Try.prog.built 92 [(0, (.int .i64 x0)), (1, (.int .i64 x1)), (2, (.int .i64 x2))] = some #[(.int .i64 x0), (.int .i64 x1), (.int .i64 x2)] := by kernel_rfl
theorem bt93_  : Try.prog.built 93 [] = some #[(.int .i64 0), (.int .i64 0), (.int .i64 0)] := by kernel_rfl
theorem bt93_0 (x0 : Int) : Try.prog.built 93 [(0, (.int .i64 x0))] = some #[(.int .i64 x0), (.int .i64 0), (.int .i64 0)] := by kernel_rfl
theorem bt93_1 (x1 : Int) : Try.prog.built 93 [(1, (.int .i64 x1))] = some #[(.int .i64 0), (.int .i64 x1), (.int .i64 0)] := by kernel_rfl
theorem bt93_2 (x2 : Int) : Try.prog.built 93 [(2, (.int .i64 x2))] = some #[(.int .i64 0), (.int .i64 0), (.int .i64 x2)] := by kernel_rfl
theorem bt93_01 (x0 : Int) (x1 : Int) : Try.prog.built 93 [(0, (.int .i64 x0)), (1, (.int .i64 x1))] = some #[(.int .i64 x0), (.int .i64 x1), (.int .i64 0)] := by kernel_rfl
theorem bt93_02 (x0 : Int) (x2 : Int) : Try.prog.built 93 [(0, (.int .i64 x0)), (2, (.int .i64 x2))] = some #[(.int .i64 x0), (.int .i64 0), (.int .i64 x2)] := by kernel_rfl
theorem bt93_12 (x1 : Int) (x2 : Int) : Try.prog.built 93 [(1, (.int .i64 x1)), (2, (.int .i64 x2))] = some #[(.int .i64 0), (.int .i64 x1), (.int .i64 x2)] := by kernel_rfl
theorem bt93_012 (x0 : Int) (x1 : Int) (x2 : Int) : Try.prog.built 93 [(0, (.int .i64 x0)), (1, (.int .i64 x1)), (2, (.int .i64 x2))] = some #[(.int .i64 x0), (.int .i64 x1), (.int .i64 x2)] := by kernel_rfl
theorem bs28_0  : builtSl Try.prog 28 0 [] = some #[] := by kernel_rfl
theorem bs28_1 (a0 : Option Addr) (n0 c0 : Nat) : builtSl Try.prog 28 1 [(0, (.slice a0 n0 c0))] = some #[(.slice a0 n0 c0)] := by kernel_rfl
theorem bs28_2 (a0 : Option Addr) (n0 c0 : Nat) (a1 : Option Addr) (n1 c1 : Nat) : builtSl Try.prog 28 2 [(0, (.slice a0 n0 c0)), (1, (.slice a1 n1 c1))] = some #[(.slice a0 n0 c0), (.slice a1 n1 c1)] := by kernel_rfl
theorem bs28_3 (a0 : Option Addr) (n0 c0 : Nat) (a1 : Option Addr) (n1 c1 : Nat) (a2 : Option Addr) (n2 c2 : Nat) : builtSl Try.prog 28 3 [(0, (.slice a0 n0 c0)), (1, (.slice a1 n1 c1)), (2, (.slice a2 n2 c2))] = some #[(.slice a0 n0 c0), (.slice a1 n1 c1), (.slice a2 n2 c2)] := by kernel_rfl
theorem bs28_4 (a0 : Option Addr) (n0 c0 : Nat) (a1 : Option Addr) (n1 c1 : Nat) (a2 : Option Addr) (n2 c2 : Nat) (a3 : Option Addr) (n3 c3 : Nat) : builtSl Try.prog 28 4 [(0, (.slice a0 n0 c0)), (1, (.slice a1 n1 c1)), (2, (.slice a2 n2 c2)), (3, (.slice a3 n3 c3))] = some #[(.slice a0 n0 c0), (.slice a1 n1 c1), (.slice a2 n2 c2), (.slice a3 n3 c3)] := by kernel_rfl
theorem bs28_5 (a0 : Option Addr) (n0 c0 : Nat) (a1 : Option Addr) (n1 c1 : Nat) (a2 : Option Addr) (n2 c2 : Nat) (a3 : Option Addr) (n3 c3 : Nat) (a4 : Option Addr) (n4 c4 : Nat) : builtSl Try.prog 28 5 [(0, (.slice a0 n0 c0)), (1, (.slice a1 n1 c1)), (2, (.slice a2 n2 c2)), (3, (.slice a3 n3 c3)), (4, (.slice a4 n4 c4))] = some #[(.slice a0 n0 c0), (.slice a1 n1 c1), (.slice a2 n2 c2), (.slice a3 n3 c3), (.slice a4 n4 c4)] := by kernel_rfl
theorem bs28_6 (a0 : Option Addr) (n0 c0 : Nat) (a1 : Option Addr) (n1 c1 : Nat) (a2 : Option Addr) (n2 c2 : Nat) (a3 : Option Addr) (n3 c3 : Nat) (a4 : Option Addr) (n4 c4 : Nat) (a5 : Option Addr) (n5 c5 : Nat) : builtSl Try.prog 28 6 [(0, (.slice a0 n0 c0)), (1, (.slice a1 n1 c1)), (2, (.slice a2 n2 c2)), (3, (.slice a3 n3 c3)), (4, (.slice a4 n4 c4)), (5, (.slice a5 n5 c5))] = some #[(.slice a0 n0 c0), (.slice a1 n1 c1), (.slice a2 n2 c2), (.slice a3 n3 c3), (.slice a4 n4 c4), (.slice a5 n5 c5)] := by kernel_rfl
theorem bs4_0  : builtSl Try.prog 4 0 [] = some #[] := by kernel_rfl
theorem bs4_1 (x0 : Bool) : builtSl Try.prog 4 1 [(0, (.bool x0))] = some #[(.bool x0)] := by kernel_rfl
theorem bs4_2 (x0 : Bool) (x1 : Bool) : builtSl Try.prog 4 2 [(0, (.bool x0)), (1, (.bool x1))] = some #[(.bool x0), (.bool x1)] := by kernel_rfl
theorem bs4_3 (x0 : Bool) (x1 : Bool) (x2 : Bool) : builtSl Try.prog 4 3 [(0, (.bool x0)), (1, (.bool x1)), (2, (.bool x2))] = some #[(.bool x0), (.bool x1), (.bool x2)] := by kernel_rfl
theorem bs4_4 (x0 : Bool) (x1 : Bool) (x2 : Bool) (x3 : Bool) : builtSl Try.prog 4 4 [(0, (.bool x0)), (1, (.bool x1)), (2, (.bool x2)), (3, (.bool x3))] = some #[(.bool x0), (.bool x1), (.bool x2), (.bool x3)] := by kernel_rfl
theorem bs4_5 (x0 : Bool) (x1 : Bool) (x2 : Bool) (x3 : Bool) (x4 : Bool) : builtSl Try.prog 4 5 [(0, (.bool x0)), (1, (.bool x1)), (2, (.bool x2)), (3, (.bool x3)), (4, (.bool x4))] = some #[(.bool x0), (.bool x1), (.bool x2), (.bool x3), (.bool x4)] := by kernel_rfl
theorem bs4_6 (x0 : Bool) (x1 : Bool) (x2 : Bool) (x3 : Bool) (x4 : Bool) (x5 : Bool) : builtSl Try.prog 4 6 [(0, (.bool x0)), (1, (.bool x1)), (2, (.bool x2)), (3, (.bool x3)), (4, (.bool x4)), (5, (.bool x5))] = some #[(.bool x0), (.bool x1), (.bool x2), (.bool x3), (.bool x4), (.bool x5)] := by kernel_rfl
theorem bs158_0  : builtSl Try.prog 158 0 [] = some #[] := by kernel_rfl
theorem bs158_1 (v0_0 v0_1 : Value) : builtSl Try.prog 158 1 [(0, (.agg #[v0_0, v0_1]))] = some #[v0_0, v0_1] := by kernel_rfl
theorem bs158_2 (v0_0 v0_1 : Value) (v1_0 v1_1 : Value) : builtSl Try.prog 158 2 [(0, (.agg #[v0_0, v0_1])), (1, (.agg #[v1_0, v1_1]))] = some #[v0_0, v0_1, v1_0, v1_1] := by kernel_rfl
theorem bs158_3 (v0_0 v0_1 : Value) (v1_0 v1_1 : Value) (v2_0 v2_1 : Value) : builtSl Try.prog 158 3 [(0, (.agg #[v0_0, v0_1])), (1, (.agg #[v1_0, v1_1])), (2, (.agg #[v2_0, v2_1]))] = some #[v0_0, v0_1, v1_0, v1_1, v2_0, v2_1] := by kernel_rfl
theorem bs158_4 (v0_0 v0_1 : Value) (v1_0 v1_1 : Value) (v2_0 v2_1 : Value) (v3_0 v3_1 : Value) : builtSl Try.prog 158 4 [(0, (.agg #[v0_0, v0_1])), (1, (.agg #[v1_0, v1_1])), (2, (.agg #[v2_0, v2_1])), (3, (.agg #[v3_0, v3_1]))] = some #[v0_0, v0_1, v1_0, v1_1, v2_0, v2_1, v3_0, v3_1] := by kernel_rfl
theorem bs158_5 (v0_0 v0_1 : Value) (v1_0 v1_1 : Value) (v2_0 v2_1 : Value) (v3_0 v3_1 : Value) (v4_0 v4_1 : Value) : builtSl Try.prog 158 5 [(0, (.agg #[v0_0, v0_1])), (1, (.agg #[v1_0, v1_1])), (2, (.agg #[v2_0, v2_1])), (3, (.agg #[v3_0, v3_1])), (4, (.agg #[v4_0, v4_1]))] = some #[v0_0, v0_1, v1_0, v1_1, v2_0, v2_1, v3_0, v3_1, v4_0, v4_1] := by kernel_rfl
theorem bs158_6 (v0_0 v0_1 : Value) (v1_0 v1_1 : Value) (v2_0 v2_1 : Value) (v3_0 v3_1 : Value) (v4_0 v4_1 : Value) (v5_0 v5_1 : Value) : builtSl Try.prog 158 6 [(0, (.agg #[v0_0, v0_1])), (1, (.agg #[v1_0, v1_1])), (2, (.agg #[v2_0, v2_1])), (3, (.agg #[v3_0, v3_1])), (4, (.agg #[v4_0, v4_1])), (5, (.agg #[v5_0, v5_1]))] = some #[v0_0, v0_1, v1_0, v1_1, v2_0, v2_1, v3_0, v3_1, v4_0, v4_1, v5_0, v5_1] := by kernel_rfl
theorem bt158_  : Try.prog.built 158 [] = some #[(.int .i64 0), (.int .i64 0)] := by kernel_rfl
theorem bt158_0 (x0 : Int) : Try.prog.built 158 [(0, (.int .i64 x0))] = some #[(.int .i64 x0), (.int .i64 0)] := by kernel_rfl
theorem bt158_1 (x1 : Int) : Try.prog.built 158 [(1, (.int .i64 x1))] = some #[(.int .i64 0), (.int .i64 x1)] := by kernel_rfl
theorem bt158_01 (x0 : Int) (x1 : Int) : Try.prog.built 158 [(0, (.int .i64 x0)), (1, (.int .i64 x1))] = some #[(.int .i64 x0), (.int .i64 x1)] := by kernel_rfl
theorem bt218_  : Try.prog.built 218 [] = some #[(.pointer none), (.pointer none), (.pointer none), (.string ⟨#[]⟩)] := by kernel_rfl
theorem bt218_0 (x0 : Option Addr) : Try.prog.built 218 [(0, (.pointer x0))] = some #[(.pointer x0), (.pointer none), (.pointer none), (.string ⟨#[]⟩)] := by kernel_rfl
theorem bt218_1 (x1 : Option Addr) : Try.prog.built 218 [(1, (.pointer x1))] = some #[(.pointer none), (.pointer x1), (.pointer none), (.string ⟨#[]⟩)] := by kernel_rfl
theorem bt218_2 (x2 : Option Addr) : Try.prog.built 218 [(2, (.pointer x2))] = some #[(.pointer none), (.pointer none), (.pointer x2), (.string ⟨#[]⟩)] := by kernel_rfl
theorem bt218_3 (x3 : ByteArray) : Try.prog.built 218 [(3, (.string x3))] = some #[(.pointer none), (.pointer none), (.pointer none), (.string x3)] := by kernel_rfl
theorem bt218_01 (x0 : Option Addr) (x1 : Option Addr) : Try.prog.built 218 [(0, (.pointer x0)), (1, (.pointer x1))] = some #[(.pointer x0), (.pointer x1), (.pointer none), (.string ⟨#[]⟩)] := by kernel_rfl
theorem bt218_02 (x0 : Option Addr) (x2 : Option Addr) : Try.prog.built 218 [(0, (.pointer x0)), (2, (.pointer x2))] = some #[(.pointer x0), (.pointer none), (.pointer x2), (.string ⟨#[]⟩)] := by kernel_rfl
theorem bt218_03 (x0 : Option Addr) (x3 : ByteArray) : Try.prog.built 218 [(0, (.pointer x0)), (3, (.string x3))] = some #[(.pointer x0), (.pointer none), (.pointer none), (.string x3)] := by kernel_rfl
theorem bt218_12 (x1 : Option Addr) (x2 : Option Addr) : Try.prog.built 218 [(1, (.pointer x1)), (2, (.pointer x2))] = some #[(.pointer none), (.pointer x1), (.pointer x2), (.string ⟨#[]⟩)] := by kernel_rfl
theorem bt218_13 (x1 : Option Addr) (x3 : ByteArray) : Try.prog.built 218 [(1, (.pointer x1)), (3, (.string x3))] = some #[(.pointer none), (.pointer x1), (.pointer none), (.string x3)] := by kernel_rfl
theorem bt218_23 (x2 : Option Addr) (x3 : ByteArray) : Try.prog.built 218 [(2, (.pointer x2)), (3, (.string x3))] = some #[(.pointer none), (.pointer none), (.pointer x2), (.string x3)] := by kernel_rfl
theorem bt218_012 (x0 : Option Addr) (x1 : Option Addr) (x2 : Option Addr) : Try.prog.built 218 [(0, (.pointer x0)), (1, (.pointer x1)), (2, (.pointer x2))] = some #[(.pointer x0), (.pointer x1), (.pointer x2), (.string ⟨#[]⟩)] := by kernel_rfl
theorem bt218_013 (x0 : Option Addr) (x1 : Option Addr) (x3 : ByteArray) : Try.prog.built 218 [(0, (.pointer x0)), (1, (.pointer x1)), (3, (.string x3))] = some #[(.pointer x0), (.pointer x1), (.pointer none), (.string x3)] := by kernel_rfl
theorem bt218_023 (x0 : Option Addr) (x2 : Option Addr) (x3 : ByteArray) : Try.prog.built 218 [(0, (.pointer x0)), (2, (.pointer x2)), (3, (.string x3))] = some #[(.pointer x0), (.pointer none), (.pointer x2), (.string x3)] := by kernel_rfl
theorem bt218_123 (x1 : Option Addr) (x2 : Option Addr) (x3 : ByteArray) : Try.prog.built 218 [(1, (.pointer x1)), (2, (.pointer x2)), (3, (.string x3))] = some #[(.pointer none), (.pointer x1), (.pointer x2), (.string x3)] := by kernel_rfl
theorem bt218_0123 (x0 : Option Addr) (x1 : Option Addr) (x2 : Option Addr) (x3 : ByteArray) : Try.prog.built 218 [(0, (.pointer x0)), (1, (.pointer x1)), (2, (.pointer x2)), (3, (.string x3))] = some #[(.pointer x0), (.pointer x1), (.pointer x2), (.string x3)] := by kernel_rfl
theorem bt219_  : Try.prog.built 219 [] = some #[(.pointer none), (.pointer none), (.pointer none), (.string ⟨#[]⟩)] := by kernel_rfl
theorem bt219_0 (x0 : Option Addr) : Try.prog.built 219 [(0, (.pointer x0))] = some #[(.pointer x0), (.pointer none), (.pointer none), (.string ⟨#[]⟩)] := by kernel_rfl
theorem bt219_1 (x1 : Option Addr) : Try.prog.built 219 [(1, (.pointer x1))] = some #[(.pointer none), (.pointer x1), (.pointer none), (.string ⟨#[]⟩)] := by kernel_rfl
theorem bt219_2 (x2 : Option Addr) : Try.prog.built 219 [(2, (.pointer x2))] = some #[(.pointer none), (.pointer none), (.pointer x2), (.string ⟨#[]⟩)] := by kernel_rfl
theorem bt219_3 (x3 : ByteArray) : Try.prog.built 219 [(3, (.string x3))] = some #[(.pointer none), (.pointer none), (.pointer none), (.string x3)] := by kernel_rfl
theorem bt219_01 (x0 : Option Addr) (x1 : Option Addr) : Try.prog.built 219 [(0, (.pointer x0)), (1, (.pointer x1))] = some #[(.pointer x0), (.pointer x1), (.pointer none), (.string ⟨#[]⟩)] := by kernel_rfl
theorem bt219_02 (x0 : Option Addr) (x2 : Option Addr) : Try.prog.built 219 [(0, (.pointer x0)), (2, (.pointer x2))] = some #[(.pointer x0), (.pointer none), (.pointer x2), (.string ⟨#[]⟩)] := by kernel_rfl
theorem bt219_03 (x0 : Option Addr) (x3 : ByteArray) : Try.prog.built 219 [(0, (.pointer x0)), (3, (.string x3))] = some #[(.pointer x0), (.pointer none), (.pointer none), (.string x3)] := by kernel_rfl
theorem bt219_12 (x1 : Option Addr) (x2 : Option Addr) : Try.prog.built 219 [(1, (.pointer x1)), (2, (.pointer x2))] = some #[(.pointer none), (.pointer x1), (.pointer x2), (.string ⟨#[]⟩)] := by kernel_rfl
theorem bt219_13 (x1 : Option Addr) (x3 : ByteArray) : Try.prog.built 219 [(1, (.pointer x1)), (3, (.string x3))] = some #[(.pointer none), (.pointer x1), (.pointer none), (.string x3)] := by kernel_rfl
theorem bt219_23 (x2 : Option Addr) (x3 : ByteArray) : Try.prog.built 219 [(2, (.pointer x2)), (3, (.string x3))] = some #[(.pointer none), (.pointer none), (.pointer x2), (.string x3)] := by kernel_rfl
theorem bt219_012 (x0 : Option Addr) (x1 : Option Addr) (x2 : Option Addr) : Try.prog.built 219 [(0, (.pointer x0)), (1, (.pointer x1)), (2, (.pointer x2))] = some #[(.pointer x0), (.pointer x1), (.pointer x2), (.string ⟨#[]⟩)] := by kernel_rfl
theorem bt219_013 (x0 : Option Addr) (x1 : Option Addr) (x3 : ByteArray) : Try.prog.built 219 [(0, (.pointer x0)), (1, (.pointer x1)), (3, (.string x3))] = some #[(.pointer x0), (.pointer x1), (.pointer none), (.string x3)] := by kernel_rfl
theorem bt219_023 (x0 : Option Addr) (x2 : Option Addr) (x3 : ByteArray) : Try.prog.built 219 [(0, (.pointer x0)), (2, (.pointer x2)), (3, (.string x3))] = some #[(.pointer x0), (.pointer none), (.pointer x2), (.string x3)] := by kernel_rfl
theorem bt219_123 (x1 : Option Addr) (x2 : Option Addr) (x3 : ByteArray) : Try.prog.built 219 [(1, (.pointer x1)), (2, (.pointer x2)), (3, (.string x3))] = some #[(.pointer none), (.pointer x1), (.pointer x2), (.string x3)] := by kernel_rfl
theorem bt219_0123 (x0 : Option Addr) (x1 : Option Addr) (x2 : Option Addr) (x3 : ByteArray) : Try.prog.built 219 [(0, (.pointer x0)), (1, (.pointer x1)), (2, (.pointer x2)), (3, (.string x3))] = some #[(.pointer x0), (.pointer x1), (.pointer x2), (.string x3)] := by kernel_rfl
theorem bt221_  : Try.prog.built 221 [] = some #[] := by kernel_rfl
theorem bt222_  : Try.prog.built 222 [] = some #[] := by kernel_rfl
attribute [go_sem] bt7_ bt7_0 bt7_1 bt7_2 bt7_3 bt7_01 bt7_02 bt7_03 bt7_12 bt7_13 bt7_23 bt7_012 bt7_013 bt7_023 bt7_123 bt7_0123 bt8_ bt8_0 bt8_1 bt8_2 bt8_3 bt8_01 bt8_02 bt8_03 bt8_12 bt8_13 bt8_23 bt8_012 bt8_013 bt8_023 bt8_123 bt8_0123 bt13_ bt13_0 bt13_1 bt13_01 bt14_ bt14_0 bt14_1 bt14_01 bt18_ bt18_0 bt19_ bt19_0 bs92_0 bs92_1 bs92_2 bs92_3 bs92_4 bs92_5 bs92_6 bt23_ bt23_0 bt23_1 bt23_2 bt23_01 bt23_02 bt23_12 bt23_012 bt24_ bt24_0 bt24_1 bt24_2 bt24_01 bt24_02 bt24_12 bt24_012 bs93_0 bs93_1 bs93_2 bs93_3 bs93_4 bs93_5 bs93_6 bt29_ bt29_0 bt29_1 bt29_2 bt29_01 bt29_02 bt29_12 bt29_012 bt30_ bt30_0 bt30_1 bt30_2 bt30_01 bt30_02 bt30_12 bt30_012 bt34_ bt34_0 bt34_1 bt34_01 bt35_ bt35_0 bt35_1 bt35_01 bt37_ bt37_0 bt37_1 bt37_01 bt38_ bt38_0 bt38_1 bt38_01 bs30_0 bs30_1 bs30_2 bs30_3 bs30_4 bs30_5 bs30_6 bs56_0 bs56_1 bs56_2 bs56_3 bs56_4 bs56_5 bs56_6 bs2_0 bs2_1 bs2_2 bs2_3 bs2_4 bs2_5 bs2_6 bs51_0 bs51_1 bs51_2 bs51_3 bs51_4 bs51_5 bs51_6 bt92_ bt92_0 bt92_1 bt92_2 bt92_01 bt92_02 bt92_12 bt92_012 bt93_ bt93_0 bt93_1 bt93_2 bt93_01 bt93_02 bt93_12 bt93_012 bs28_0 bs28_1 bs28_2 bs28_3 bs28_4 bs28_5 bs28_6 bs4_0 bs4_1 bs4_2 bs4_3 bs4_4 bs4_5 bs4_6 bs158_0 bs158_1 bs158_2 bs158_3 bs158_4 bs158_5 bs158_6 bt158_ bt158_0 bt158_1 bt158_01 bt218_ bt218_0 bt218_1 bt218_2 bt218_3 bt218_01 bt218_02 bt218_03 bt218_12 bt218_13 bt218_23 bt218_012 bt218_013 bt218_023 bt218_123 bt218_0123 bt219_ bt219_0 bt219_1 bt219_2 bt219_3 bt219_01 bt219_02 bt219_03 bt219_12 bt219_13 bt219_23 bt219_012 bt219_013 bt219_023 bt219_123 bt219_0123 bt221_ bt222_
attribute [go_sem] ti2 zok2 Try.underlying2 ti3 zok3 Try.underlying3 ti4 zok4 Try.underlying4 ti5 zok5 Try.underlying5 ti6 zok6 Try.underlying6 ti7 zok7 Try.underlying7 ti8 zok8 Try.underlying8 ti9 zok9 Try.underlying9 ti10 zok10 Try.underlying10 ti11 zok11 Try.underlying11 ti12 zok12 Try.underlying12 ti13 zok13 Try.underlying13 ti14 zok14 Try.underlying14 ti15 zok15 Try.underlying15 ti16 zok16 Try.underlying16 ti17 zok17 Try.underlying17 ti18 zok18 Try.underlying18 ti19 zok19 Try.underlying19 ti21 zok21 Try.underlying21 ti22 zok22 Try.underlying22 ti23 zok23 Try.underlying23 ti24 zok24 Try.underlying24 ti28 zok28 Try.underlying28 ti29 zok29 Try.underlying29 ti30 zok30 Try.underlying30 ti34 zok34 Try.underlying34 ti35 zok35 Try.underlying35 ti37 zok37 Try.underlying37 ti38 zok38 Try.underlying38 ti45 zok45 Try.underlying45 ti51 zok51 Try.underlying51 ti56 zok56 Try.underlying56 ti63 zok63 Try.underlying63 ti92 zok92 Try.underlying92 ti93 zok93 Try.underlying93 ti96 zok96 Try.underlying96 ti129 zok129 Try.underlying129 ti136 zok136 Try.underlying136 ti138 zok138 Try.underlying138 ti152 zok152 Try.underlying152 ti157 zok157 Try.underlying157 ti158 zok158 Try.underlying158 ti170 zok170 Try.underlying170 ti171 zok171 Try.underlying171 ti172 zok172 Try.underlying172 ti179 zok179 Try.underlying179 ti188 zok188 Try.underlying188 ti192 zok192 Try.underlying192 ti196 zok196 Try.underlying196 ti208 zok208 Try.underlying208 ti218 zok218 Try.underlying218 ti219 zok219 Try.underlying219 ti220 zok220 Try.underlying220 ti221 zok221 Try.underlying221 ti222 zok222 Try.underlying222 ti224 zok224 Try.underlying224 ti225 zok225 Try.underlying225 ti227 zok227 Try.underlying227 ti228 zok228 Try.underlying228 ti229 zok229 Try.underlying229 ti230 zok230 Try.underlying230 ti231 zok231 Try.underlying231
end Go.Proofs.Ytdfeoccjllljiaa
end

section
/- What every row of this seat needs of the program: closed facts. No statement of the seat is proved here. -/
set_option linter.all false
namespace Go.Proofs.Ytdfeoccjllljiaa
open Go.Ab
theorem own : ownKnob Try.prog.godebug = none := by kernel_rfl
theorem laidOut : laidOutB Try.prog = true := by kernel_rfl
theorem mixed : Try.prog.follows .mixedOrders = true := by kernel_rfl
theorem head_io : Try.prog.initOrder = "harness" ++ (" " ++ ("bb35bdd35c348ab4385da5a12f18689986d437c12ee91b369af19eae3e80db72" ++ (" " ++ ("cut" ++ (" " ++ ("at" ++ (" " ++ "loop.example/g01355/laws.FnExactIsMinimalTrade loop.example/g01355/laws.FnExactProductSystem loop.example/g01355/laws.FnExactPartsOfTrade loop.example/g01355/laws.FnExactIsSquare loop.example/g01355/laws.FnExactSquareKinds loop.example/g01355/laws.FnExactIsDifferenceFamily loop.example/g01355/laws.FnExactDifferenceFamilies loop.example/g01355/laws.FnExactNamedSystem loop.example/g01355/laws.FnExactSystemOf loop.example/g01355/laws.FnExactDoubleSystem loop.example/g01355/laws.FnExactLeadsTo loop.example/g01355/laws.FnExactRenumberSystem loop.example/g01355/laws.FnExactCyclicSystem loop.example/g01355/laws.FnExactThreefoldSystem"))))))) := by kernel_rfl
theorem head_ws : behindMainWord (wordsSigns Try.prog.initOrder.toList) = "cut".toList :: "at".toList :: wordsSigns "loop.example/g01355/laws.FnExactIsMinimalTrade loop.example/g01355/laws.FnExactProductSystem loop.example/g01355/laws.FnExactPartsOfTrade loop.example/g01355/laws.FnExactIsSquare loop.example/g01355/laws.FnExactSquareKinds loop.example/g01355/laws.FnExactIsDifferenceFamily loop.example/g01355/laws.FnExactDifferenceFamilies loop.example/g01355/laws.FnExactNamedSystem loop.example/g01355/laws.FnExactSystemOf loop.example/g01355/laws.FnExactDoubleSystem loop.example/g01355/laws.FnExactLeadsTo loop.example/g01355/laws.FnExactRenumberSystem loop.example/g01355/laws.FnExactCyclicSystem loop.example/g01355/laws.FnExactThreefoldSystem".toList :=
  cut_words head_io (by kernel_rfl) (by kernel_rfl) (by kernel_rfl) (by kernel_rfl) (by kernel_rfl) (by kernel_rfl)
theorem mkFact : Try.prog.make = some .cut := make_of head_ws (by kernel_rfl) (by kernel_rfl)
theorem liftFact : Try.prog.liftsFinal = false := liftsFinal_of head_ws
theorem enterFact : Try.prog.mayEnter = true := mayEnter_of head_ws (by kernel_rfl) (by kernel_rfl) (by kernel_rfl)
theorem rowedFact : mapsRowed Try.prog = true := by kernel_rfl
theorem heardFact : Try.prog.stopsHeard = true := by kernel_rfl
end Go.Proofs.Ytdfeoccjllljiaa
end

section
/- Lists that a call builds for itself: appending, marking, what stays as it was. No statement of the seat is proved here; it holds for every program. -/
set_option linter.all false
namespace Go.Ab

/-- All blocks but those of S are as they were. -/
def Same (S : Nat → Prop) (H H' : Heap) : Prop := H.length ≤ H'.length ∧ ∀ j, j < H.length → ¬ S j → H'[j]? = H[j]?

theorem Same.refl (S : Nat → Prop) (H : Heap) : Same S H H := ⟨Nat.le_refl _, fun _ _ _ => rfl⟩
theorem Same.trans {S : Nat → Prop} {H H' H'' : Heap} (h : Same S H H') (h' : Same S H' H'') : Same S H H'' :=
  ⟨Nat.le_trans h.1 h'.1, fun j hj hs => (h'.2 j (Nat.lt_of_lt_of_le hj h.1) hs).trans (h.2 j hj hs)⟩
theorem Same.mono {S T : Nat → Prop} {H H' : Heap} (h : Same S H H') (hst : ∀ j, j < H.length → S j → T j) : Same T H H' :=
  ⟨h.1, fun j hj hs => h.2 j hj fun hS => hs (hst j hj hS)⟩
theorem Same.of_prefix {S : Nat → Prop} {H H' : Heap} (h : H <+: H') : Same S H H' := by
  obtain ⟨t, rfl⟩ := h
  exact ⟨by simp, fun j hj _ => List.getElem?_append_left hj⟩
theorem Same.prefix {S : Nat → Prop} {H H' : Heap} (h : Same S H H') (hs : ∀ j, j < H.length → ¬ S j) : H <+: H' := by
  rw [List.prefix_iff_eq_take]
  apply List.ext_getElem?
  intro j
  by_cases hj : j < H.length
  · rw [List.getElem?_take, if_pos hj, h.2 j hj (hs j hj)]
  · rw [List.getElem?_take, if_neg hj, List.getElem?_eq_none (by omega)]
theorem Same.get {S : Nat → Prop} {H H' : Heap} (h : Same S H H') {j : Nat} {b : Blk} (hb : H[j]? = some b) (hs : ¬ S j) : H'[j]? = some b := by
  rw [h.2 j (List.getElem?_eq_some_iff.1 hb).1 hs]; exact hb

/-- A list of n elements of e cells that the call holds alone. -/
def OL (e : Nat) (H : Heap) (id : Nat) (cs : List Value) (n : Nat) : Prop :=
  cs.length = n * e ∧ ((n = 0 ∧ ghostAt H id = true) ∨ H[id]? = some ⟨cs, true, true⟩)

theorem OL.lt {e : Nat} {H : Heap} {id : Nat} {cs : List Value} {n : Nat} (h : OL e H id cs n) : id < H.length := by
  rcases h.2 with ⟨_, h⟩ | h
  · obtain ⟨b, hb, _⟩ := ghostAt_inv h
    exact (List.getElem?_eq_some_iff.1 hb).1
  · exact (List.getElem?_eq_some_iff.1 h).1

theorem OL.at {e : Nat} {H : Heap} {id : Nat} {cs : List Value} {n : Nat} (h : OL e H id cs n) : At H id 0 cs := by
  rcases h.2 with ⟨h0, _⟩ | h'
  · left; subst h0; exact List.eq_nil_of_length_eq_zero (by simpa using h.1)
  · exact Holds.at ⟨true, h'⟩

theorem OL.ghost (e : Nat) (H : Heap) : OL e (H ++ [⟨[], false, false⟩]) H.length [] 0 :=
  ⟨by simp, .inl ⟨rfl, by simp [ghostAt]⟩⟩

theorem OL.keep {e : Nat} {H H' : Heap} {id : Nat} {cs : List Value} {n : Nat} (h : OL e H id cs n) {S : Nat → Prop} (hs : Same S H H') (hi : ¬ S id) : OL e H' id cs n := by
  refine ⟨h.1, ?_⟩
  rcases h.2 with ⟨h0, h'⟩ | h'
  · left
    obtain ⟨b, hb, h1, h2⟩ := ghostAt_inv h'
    refine ⟨h0, ?_⟩
    have := hs.get hb hi
    simp [ghostAt, this, h1, h2]
  · right; exact hs.get h' hi

/-- append to such a list. -/
theorem OL.append {e : Nat} {H : Heap} {id : Nat} {cs : List Value} {n : Nat} (h : OL e H id cs n) (he : 0 < e) {m : Nat} (hm : 0 < m) {news : List Value} (hn : news.length = m * e) :
    ∃ H', appendH H e (lv e id 0 n) m news = some (lv e H.length 0 (n + m), H') ∧ OL e H' H.length (cs ++ news) (n + m) ∧ Same (fun j => j = id) H H' ∧ H'.length = H.length + 1 := by
  rcases h.2 with ⟨h0, hg⟩ | hb
  · subst h0
    have : cs = [] := List.eq_nil_of_length_eq_zero (by simpa using h.1)
    subst this
    refine ⟨H ++ [⟨news, true, true⟩], ?_, ⟨by simpa using hn, .inr (by simp)⟩, Same.of_prefix (List.prefix_append _ _), by simp⟩
    simp [appendH, show ¬ m = 0 by omega, he, hg]
  · have hc : cellsAt H id 0 (n * e) = some cs := by rw [← h.1, cellsAt_of hb rfl (by simp)]; simp
    have hown : ownAt H id = true := by simp [ownAt, hb]
    have hng : ghostAt H id = false := by simp [ghostAt, hb]
    refine ⟨H.kill id ++ [⟨cs ++ news, true, true⟩], ?_, ⟨by simp [h.1, hn, Nat.add_mul], .inr (by rw [List.getElem?_append_right (by rw [Heap.kill_length]; exact Nat.le_refl _), Heap.kill_length]; simp)⟩, ⟨by simp [Heap.kill_length], fun j hj hs => ?_⟩, by simp [Heap.kill_length]⟩
    · simp [appendH, show ¬ m = 0 by omega, hown, hng, hc]
    · rw [List.getElem?_append_left (by rw [Heap.kill_length]; exact hj)]
      unfold Heap.kill
      rw [hb]
      exact List.getElem?_set_ne (fun e => hs e.symm)

/-- 'append(s, x)': the text builds a slice of one element first. -/
theorem OL.push {e : Nat} {H : Heap} {id : Nat} {cs : List Value} {n : Nat} (h : OL e H id cs n) (he : 0 < e) {xs : List Value} (hx : xs.length = e) :
    cellsAt (H ++ [⟨xs, true, true⟩]) H.length 0 e = some xs ∧ ∃ H', appendH (H ++ [⟨xs, true, true⟩]) e (lv e id 0 n) 1 xs = some (lv e (H.length + 1) 0 (n + 1), H') ∧ OL e H' (H.length + 1) (cs ++ xs) (n + 1) ∧ Same (fun j => j = id) H H' ∧ H'.length = H.length + 2 := by
  have hid := h.lt
  have hk : OL e (H ++ [⟨xs, true, true⟩]) id cs n := h.keep (S := fun _ => False) (Same.of_prefix (List.prefix_append _ _)) (fun hh => hh)
  obtain ⟨H', h1, h2, h3, h4⟩ := hk.append he (m := 1) (by omega) (news := xs) (by simpa using hx)
  refine ⟨?_, H', by simpa using h1, by simpa using h2, ?_, by simpa using h4⟩
  · rw [cellsAt_of (b := ⟨xs, true, true⟩) (by simp) rfl (by simp [hx])]
    simp [← hx]
  · exact (Same.of_prefix (S := fun j => j = id) (List.prefix_append H [⟨xs, true, true⟩])).trans h3

theorem Up.tuple {H : Heap} {xs ys : Array Value} (h : Ups H xs.toList ys.toList) : Up H (.tuple xs) (.tuple ys) := by
  intro B w0 ρ w cv hR hv
  obtain ⟨zs, rfl, hz⟩ := hv.tuple_inv
  exact VR.tuple_of (h.vrs hR hz)

/-- The result may be said less of. -/
theorem ACalls.res {P : Program} {f : FuncId} {args : List Value} {H : Heap} {Post : Value → Heap → Prop} (h : ACalls P f args H fun v H' => ∃ v', Up H' v v' ∧ Post v' H') : ACalls P f args H Post :=
  ⟨h.1, fun B w0 ρ w cargs hR hv => (h.2 B w0 ρ w cargs hR hv).mono fun e w' hp => by
    obtain ⟨ρ', H', v, cv, h1, h2, h3, h4, v', h5, h6⟩ := hp
    exact ⟨ρ', H', v', cv, h1, h2, h3, h5 _ _ _ _ _ h3 h4, h6⟩⟩

theorem ACalls.addGhost {P : Program} {f : FuncId} {args : List Value} {H : Heap} {Post : Value → Heap → Prop} (h : ACalls P f args (H ++ [⟨[], false, false⟩]) Post) : ACalls P f args H Post :=
  ⟨h.1, fun B w0 ρ w cargs hR hv => (h.2 B w0 _ w cargs hR.addGhost (hv.mono (List.prefix_append _ _))).mono fun e w' hp => by
    obtain ⟨ρ', H', v, cv, h1, h2, h3⟩ := hp
    exact ⟨ρ', H', v, cv, h1, (List.prefix_append _ _).trans h2, h3⟩⟩

/-- The numbers from k on. -/
def upFrom (k : Int) (n : Nat) : List Int := (List.range n).map fun j : Nat => k + (j : Int)

theorem upFrom_length (k : Int) (n : Nat) : (upFrom k n).length = n := by simp [upFrom]
theorem upFrom_get {k : Int} {n j : Nat} (h : j < n) : (upFrom k n)[j]? = some (k + (j : Int)) := by simp [upFrom, h]
theorem upFrom_append (k : Int) (m n : Nat) : upFrom k m ++ upFrom (k + (m : Int)) n = upFrom k (m + n) := by
  simp only [upFrom, List.range_add, List.map_append, List.map_map]
  congr 1
  apply List.map_congr_left
  intro a _
  simp only [Function.comp, Int.natCast_add]
  omega

/-- Lists of numbers that the call holds alone, each by its block. -/
def Rows1 (H : Heap) (rows : List (Nat × List Int)) : Prop :=
  (∀ r ∈ rows, r.2 = [] ∨ H[r.1]? = some ⟨ints r.2, true, true⟩) ∧ ∀ (a b : Nat) (r t : Nat × List Int), rows[a]? = some r → rows[b]? = some t → a ≠ b → r.2 ≠ [] → t.2 ≠ [] → r.1 ≠ t.1

def rowVal (r : Nat × List Int) : Value := lv 1 r.1 0 r.2.length

/-- A list of such lists. -/
def OwnRows (H : Heap) (v : Value) (rows : List (Nat × List Int)) : Prop :=
  ∃ id, v = lv 1 id 0 rows.length ∧ At H id 0 (rows.map rowVal) ∧ Rows1 H rows ∧ (∀ r ∈ rows, r.2 ≠ [] → r.1 ≠ id) ∧ rows.length ≤ 140737488355328 ∧ ∀ r ∈ rows, r.2.length ≤ 140737488355328

/-- A list of lists of numbers, to be read. -/
def IntssAt (H : Heap) (v : Value) (xss : List (List Int)) : Prop :=
  ∃ (i o : Nat) (vs : List Value), v = lv 1 i o xss.length ∧ vs.length = xss.length ∧ At H i o vs ∧ (∀ (k : Nat) (u : Value) (xs : List Int), vs[k]? = some u → xss[k]? = some xs → IntsAt H u xs) ∧ xss.length ≤ 140737488355328

theorem IntssAt.pre {H H' : Heap} (hp : H <+: H') {v : Value} {xss : List (List Int)} (h : IntssAt H v xss) : IntssAt H' v xss := by
  obtain ⟨i, o, vs, h1, h2, h3, h4, h5⟩ := h
  exact ⟨i, o, vs, h1, h2, h3.pre hp, fun k u xs a b => (h4 k u xs a b).pre hp, h5⟩

theorem OwnRows.read {H : Heap} {v : Value} {rows : List (Nat × List Int)} (h : OwnRows H v rows) : IntssAt H v (rows.map (·.2)) := by
  obtain ⟨id, h1, h2, h3, h4, h5, h6⟩ := h
  refine ⟨id, 0, rows.map rowVal, by simpa using h1, by simp, h2, ?_, by simpa using h5⟩
  intro k u xs hu hx
  simp only [List.getElem?_map, Option.map_eq_some_iff] at hu hx
  obtain ⟨r, hr, rfl⟩ := hu
  obtain ⟨r', hr', rfl⟩ := hx
  rw [hr] at hr'; cases hr'
  have hm := List.mem_of_getElem? hr
  refine ⟨r.1, 0, rfl, ?_, h6 r hm⟩
  rcases h3.1 r hm with h | h
  · left; simp [h, ints]
  · exact Holds.at ⟨true, h⟩

/-- How many numbers stand ahead of the list s. -/
def off (xss : List (List Int)) (s : Nat) : Nat := (xss.take s).flatten.length

theorem off_all (xss : List (List Int)) : off xss xss.length = xss.flatten.length := by simp [off]
/-- The lists, each number in place of what was there. -/
def marked : Int → List (List Int) → List (List Int)
  | _, [] => []
  | k, xs :: xss => upFrom k xs.length :: marked (k + (xs.length : Int)) xss

theorem marked_length : ∀ (k : Int) (xss : List (List Int)), (marked k xss).length = xss.length
  | _, [] => rfl
  | k, xs :: xss => by simp [marked, marked_length]
theorem marked_off (k : Int) (xss : List (List Int)) (s : Nat) : off (marked k xss) s = off xss s := by
  induction xss generalizing k s with
  | nil => simp [marked]
  | cons xs xss ih =>
    cases s with
    | zero => simp [off]
    | succ s =>
      have := ih (k + (xs.length : Int)) s
      simp only [off, marked, List.take_succ_cons, List.flatten_cons, List.length_append, upFrom_length] at this ⊢
      omega
theorem marked_total (k : Int) (xss : List (List Int)) : (marked k xss).flatten.length = xss.flatten.length := by
  rw [← off_all, ← off_all, marked_off, marked_length]

/-- A list of lists while it is built. -/
structure Build (H0 H : Heap) (oid : Nat) (rows : List (Nat × List Int)) : Prop where
  pre : H0 <+: H
  ol : OL 1 H oid (rows.map rowVal) rows.length
  ge : H0.length ≤ oid
  rows1 : Rows1 H rows
  ids : ∀ r ∈ rows, H0.length ≤ r.1 ∧ r.1 < H.length ∧ r.1 ≠ oid

theorem Build.start (H : Heap) : Build H (H ++ [⟨[], false, false⟩]) H.length [] :=
  ⟨List.prefix_append _ _, OL.ghost 1 H, Nat.le_refl _, ⟨by simp, by simp⟩, by simp⟩

theorem Build.of_ol {H0 H : Heap} {oid : Nat} (hp : H0 <+: H) (h : OL 1 H oid [] 0) (hg : H0.length ≤ oid) : Build H0 H oid [] :=
  ⟨hp, h, hg, ⟨by simp, by simp⟩, by simp⟩

theorem Build.push {H0 H1 H2 : Heap} {oid rid : Nat} {rows : List (Nat × List Int)} {xs : List Int} (h : Build H0 H1 oid rows) (hp : H1 <+: H2) (hr : OL 1 H2 rid (ints xs) xs.length) (hrid : H1.length ≤ rid) :
    cellsAt (H2 ++ [⟨[lv 1 rid 0 xs.length], true, true⟩]) H2.length 0 1 = some [lv 1 rid 0 xs.length] ∧
    ∃ H4, appendH (H2 ++ [⟨[lv 1 rid 0 xs.length], true, true⟩]) 1 (lv 1 oid 0 rows.length) 1 [lv 1 rid 0 xs.length] = some (lv 1 (H2.length + 1) 0 (rows.length + 1), H4) ∧ Build H0 H4 (H2.length + 1) (rows ++ [(rid, xs)]) := by
  have hol' : OL 1 H2 oid (rows.map rowVal) rows.length := h.ol.keep (S := fun _ => False) (Same.of_prefix hp) (fun h => h)
  obtain ⟨hsrc, H4, hap, hol4, hsame4, hlen4⟩ := hol'.push (xs := [lv 1 rid 0 xs.length]) (by omega) rfl
  have hoid := h.ol.lt
  have hle := hp.length_le
  have hle0 := h.pre.length_le
  have hlt := hr.lt
  refine ⟨hsrc, H4, hap, ⟨(show Same (fun j => j = oid) H0 H4 from (Same.of_prefix (h.pre.trans hp)).trans hsame4).prefix (by have := h.ge; omega), by simpa [rowVal] using hol4, by omega, ⟨?_, ?_⟩, ?_⟩⟩
  · intro r hm
    rcases List.mem_append.1 hm with hm | hm
    · refine (h.rows1.1 r hm).imp (fun h => h) fun hb => ?_
      exact hsame4.get (Same.get (S := fun _ => False) (Same.of_prefix hp) hb (fun h => h)) (h.ids r hm).2.2
    · simp at hm; subst hm
      rcases hr.2 with ⟨h0, _⟩ | h0
      · exact .inl (List.eq_nil_of_length_eq_zero h0)
      · right
        exact hsame4.get h0 (by simp only; omega)
  · intro a b r t ha hb hab hrn htn
    have key : ∀ (a : Nat) (r : Nat × List Int), (rows ++ [(rid, xs)])[a]? = some r → (a < rows.length ∧ rows[a]? = some r) ∨ (a = rows.length ∧ r = (rid, xs)) := by
      intro a r ha
      rcases Nat.lt_or_ge a rows.length with h | h
      · rw [List.getElem?_append_left h] at ha; exact .inl ⟨h, ha⟩
      · rw [List.getElem?_append_right h] at ha
        cases hk : a - rows.length with
        | zero => rw [hk] at ha; simp at ha; exact .inr ⟨by omega, ha.symm⟩
        | succ k => rw [hk] at ha; simp at ha
    rcases key a r ha with ⟨h1, h1'⟩ | ⟨h1, rfl⟩
    · rcases key b t hb with ⟨h2, h2'⟩ | ⟨h2, rfl⟩
      · exact h.rows1.2 a b r t h1' h2' hab hrn htn
      · have := (h.ids r (List.mem_of_getElem? h1')).2.1; simp only; omega
    · rcases key b t hb with ⟨h2, h2'⟩ | ⟨h2, rfl⟩
      · have := (h.ids t (List.mem_of_getElem? h2')).2.1; simp only; omega
      · omega
  · intro r hm
    rcases List.mem_append.1 hm with hm | hm
    · have := h.ids r hm
      omega
    · simp at hm; subst hm; simp only; omega

theorem Build.own {H0 H : Heap} {oid : Nat} {rows : List (Nat × List Int)} (h : Build H0 H oid rows) (hl : rows.length ≤ 140737488355328) (hls : ∀ r ∈ rows, r.2.length ≤ 140737488355328) : OwnRows H (lv 1 oid 0 rows.length) rows :=
  ⟨oid, rfl, h.ol.at, h.rows1, fun r hr _ => (h.ids r hr).2.2, hl, hls⟩

theorem OwnRows.keep {H H' : Heap} (hp : H <+: H') {v : Value} {rows : List (Nat × List Int)} (h : OwnRows H v rows) : OwnRows H' v rows := by
  obtain ⟨id, h1, h2, h3, h4, h5, h6⟩ := h
  refine ⟨id, h1, h2.pre hp, ⟨fun r hr => (h3.1 r hr).imp (fun h => h) fun hb => ?_, h3.2⟩, h4, h5, h6⟩
  exact Same.get (S := fun _ => False) (Same.of_prefix hp) hb (fun h => h)

theorem OwnRows.nil (H : Heap) : OwnRows H (lv 1 0 0 0) [] := ⟨0, rfl, .inl rfl, ⟨by simp, by simp⟩, by simp, by simp, by simp⟩

end Go.Ab
end

section
/- Blocks of three numbers and lists of them in the abstract heap; memory at the heap's end. No statement of the seat is proved here; it holds for every program. -/
set_option linter.all false
namespace Go.Ab

/-! Memory at the heap's end, for simp. -/

def cellsB (b : Option Blk) (o n : Nat) : Option (List Value) :=
  match b with
  | some b => if b.live = true ∧ o + n ≤ b.cells.length then some ((b.cells.drop o).take n) else none
  | none => none
theorem cellsAt_end0 (H L : Heap) (o n : Nat) : cellsAt (H ++ L) H.length o n = cellsB L[0]? o n := by
  have : (H ++ L)[H.length]? = L[0]? := by rw [List.getElem?_append_right (Nat.le_refl _)]; simp
  unfold cellsAt cellsB; rw [this]; rfl
theorem cellsAt_endk (H L : Heap) (k o n : Nat) : cellsAt (H ++ L) (H.length + k) o n = cellsB L[k]? o n := by
  have : (H ++ L)[H.length + k]? = L[k]? := by rw [List.getElem?_append_right (by omega)]; simp
  unfold cellsAt cellsB; rw [this]; rfl
def storeB (H L : Heap) (k o : Nat) (vs : List Value) (b : Option Blk) : Option Heap :=
  match b with
  | some b => if b.live = true ∧ b.own = true ∧ o + vs.length ≤ b.cells.length ∧ vs.all Value.oneCell' = true then some (H ++ L.set k { b with cells := over b.cells o vs }) else none
  | none => none
theorem storeAt_end0 (H L : Heap) (o : Nat) (vs : List Value) : storeAt (H ++ L) H.length o vs = storeB H L 0 o vs L[0]? := by
  have : (H ++ L)[H.length]? = L[0]? := by rw [List.getElem?_append_right (Nat.le_refl _)]; simp
  unfold storeAt storeB; rw [this]
  cases L[0]? with
  | none => rfl
  | some b =>
    simp only
    rw [List.set_append_right _ _ (Nat.le_refl _), Nat.sub_self]
theorem storeAt_endk (H L : Heap) (k o : Nat) (vs : List Value) : storeAt (H ++ L) (H.length + k) o vs = storeB H L k o vs L[k]? := by
  have : (H ++ L)[H.length + k]? = L[k]? := by rw [List.getElem?_append_right (by omega)]; simp
  unfold storeAt storeB; rw [this]
  cases L[k]? with
  | none => rfl
  | some b =>
    simp only
    rw [List.set_append_right _ _ (by omega), Nat.add_sub_cancel_left]

attribute [go_sem] cellsB cellsAt_end0 cellsAt_endk storeB storeAt_end0 storeAt_endk over srcCells

/-- A block. -/
structure Bk where
  a : Int
  b : Int
  c : Int
deriving DecidableEq

def Bk.cells (b : Bk) : List Value := [.int .i64 b.a, .int .i64 b.b, .int .i64 b.c]
def Bk.val (b : Bk) : Value := .agg #[.int .i64 b.a, .int .i64 b.b, .int .i64 b.c]
def tri (bs : List Bk) : List Value := bs.flatMap Bk.cells

theorem tri_cons (b : Bk) (bs : List Bk) : tri (b :: bs) = b.cells ++ tri bs := by simp [tri]
theorem tri_append (bs cs : List Bk) : tri (bs ++ cs) = tri bs ++ tri cs := by simp [tri]
theorem tri_one (b : Bk) : tri [b] = b.cells := by simp [tri]
theorem tri_length (bs : List Bk) : (tri bs).length = bs.length * 3 := by
  induction bs with
  | nil => rfl
  | cons b bs ih => rw [tri_cons, List.length_append, ih]; simp [Bk.cells]; omega
theorem tri_cut {bs : List Bk} : ∀ {s : Nat} {b : Bk}, bs[s]? = some b → ((tri bs).drop (s * 3)).take 3 = b.cells := by
  induction bs with
  | nil => intro s b h; simp at h
  | cons d bs ih =>
    intro s b h
    cases s with
    | zero => simp at h; subst h; rw [tri_cons]; simp [Bk.cells]
    | succ s =>
      have := ih (s := s) (b := b) (by simpa using h)
      rw [tri_cons, show (s + 1) * 3 = d.cells.length + s * 3 by simp [Bk.cells]; omega, List.drop_append, List.drop_eq_nil_of_le (by omega), List.nil_append, Nat.add_sub_cancel_left]
      exact this

theorem At.bk {H : Heap} {i o : Nat} {bs : List Bk} (h : At H i o (tri bs)) {s : Nat} {b : Bk} (hb : bs[s]? = some b) : cellsAt H i (o + s * 3) 3 = some b.cells := by
  have hlt := (List.getElem?_eq_some_iff.1 hb).1
  rw [h.sub (by omega) (by rw [tri_length]; omega), tri_cut hb]

theorem At.num {H : Heap} {i o : Nat} {bs : List Bk} (h : At H i o (tri bs)) {s : Nat} {b : Bk} (hb : bs[s]? = some b) {j : Nat} {v : Value} (hv : b.cells[j]? = some v) : cellsAt H i (o + s * 3 + j) 1 = some [v] := by
  have hj : j < 3 := (List.getElem?_eq_some_iff.1 hv).1
  have hlt := (List.getElem?_eq_some_iff.1 hb).1
  rw [Nat.add_assoc]
  refine h.cell ?_
  have := tri_cut hb
  rw [← this, List.getElem?_take, if_pos hj, List.getElem?_drop] at hv
  exact hv

/-- A slice of blocks. -/
def BlocksAt (H : Heap) (v : Value) (bs : List Bk) : Prop := ∃ i o, v = lv 3 i o bs.length ∧ At H i o (tri bs) ∧ bs.length ≤ 140737488355328

theorem BlocksAt.pre {H H' : Heap} (hp : H <+: H') {v : Value} {bs : List Bk} (h : BlocksAt H v bs) : BlocksAt H' v bs := by
  obtain ⟨i, o, h1, h2, h3⟩ := h
  exact ⟨i, o, h1, h2.pre hp, h3⟩

theorem one_int (k : IntKind) (n : Int) : (Value.int k n).oneCell' = true := rfl
theorem one_bool (b : Bool) : (Value.bool b).oneCell' = true := rfl
theorem one_str (s : ByteArray) : (Value.string s).oneCell' = true := rfl
theorem one_slice (a : Option Addr) (n c : Nat) : (Value.slice a n c).oneCell' = true := rfl
theorem one_ptr (a : Option Addr) : (Value.pointer a).oneCell' = true := rfl
theorem one_func (f : Fn) (az bs : Array Value) : (Value.func f az bs).oneCell' = true := rfl
attribute [go_sem] one_int one_bool one_str one_slice one_ptr one_func
theorem IntsAt.one {H : Heap} {v : Value} {xs : List Int} (h : IntsAt H v xs) : v.oneCell' = true := by obtain ⟨i, o, rfl, _⟩ := h; rfl
theorem BlocksAt.one {H : Heap} {v : Value} {bs : List Bk} (h : BlocksAt H v bs) : v.oneCell' = true := by obtain ⟨i, o, rfl, _⟩ := h; rfl

/-- A system's value. -/
def sysV (p : Int) (v : Value) : Value := .agg #[.int .i64 p, v]

theorem tri_over : ∀ {xs : List Bk} {s : Nat} {b : Bk}, s < xs.length → over (tri xs) (s * 3) b.cells = tri (xs.set s b)
  | [], s, b, h => by simp at h
  | d :: xs, 0, b, h => by
    simp only [tri_cons, List.set_cons_zero]
    simp [over, Bk.cells]
  | d :: xs, s + 1, b, h => by
    have ih := tri_over (xs := xs) (s := s) (b := b) (by simpa using h)
    simp only [tri_cons, List.set_cons_succ]
    rw [← ih]
    have e : (s + 1) * 3 = d.cells.length + s * 3 := by simp [Bk.cells]; omega
    simp only [over, e]
    rw [List.take_append, List.take_of_length_le (by omega), Nat.add_sub_cancel_left, Nat.add_assoc, List.drop_append, List.drop_eq_nil_of_le (by omega), List.nil_append, Nat.add_sub_cancel_left]
    simp

theorem made_same {z : Array Value} {v : Value} (hz : 0 < z.size) (h : ∀ i, i < z.size → z[i]? = some v) (n : Nat) : (madeCells z n).toList = List.replicate n v := by
  apply List.ext_getElem?
  intro i
  simp only [madeCells, Array.toList_map, List.getElem?_map, Array.toList_range]
  by_cases hi : i < n
  · rw [List.getElem?_range hi, List.getElem?_replicate, if_pos hi]
    have := h (i % z.size) (Nat.mod_lt _ hz)
    simp [Array.getElem!_eq_getD, Array.getD_eq_getD_getElem?, this]
  · rw [List.getElem?_eq_none (by simp; omega), List.getElem?_replicate, if_neg hi]; rfl

theorem tri_zero (n : Nat) : tri (List.replicate n ⟨0, 0, 0⟩) = List.replicate (n * 3) (.int .i64 0) := by
  induction n with
  | zero => rfl
  | succ n ih => rw [List.replicate_succ, tri_cons, ih, Nat.add_mul, Nat.add_comm (n * 3), ← List.replicate_append_replicate]; rfl

theorem made_blocks (n : Nat) : (madeCells #[Value.int .i64 0, Value.int .i64 0, Value.int .i64 0] (n * 3)).toList = tri (List.replicate n ⟨0, 0, 0⟩) := by
  rw [tri_zero]
  refine made_same (by simp) ?_ _
  intro i hi
  have : i = 0 ∨ i = 1 ∨ i = 2 := by simp at hi; omega
  rcases this with rfl | rfl | rfl <;> rfl

/-- A slice of blocks that the call holds alone. -/
def OwnBlocks (H : Heap) (v : Value) (id : Nat) (bs : List Bk) : Prop := v = lv 3 id 0 bs.length ∧ (bs = [] ∨ H[id]? = some ⟨tri bs, true, true⟩) ∧ bs.length ≤ 140737488355328

theorem OwnBlocks.read {H : Heap} {v : Value} {id : Nat} {bs : List Bk} (h : OwnBlocks H v id bs) : BlocksAt H v bs := by
  obtain ⟨h1, h2, h3⟩ := h
  refine ⟨id, 0, h1, ?_, h3⟩
  rcases h2 with rfl | h2
  · exact .inl rfl
  · exact Holds.at ⟨true, h2⟩

theorem storeBk {H : Heap} {id s : Nat} {xs : List Bk} {b : Bk} (h : H[id]? = some ⟨tri xs, true, true⟩) (hs : s < xs.length) : storeAt H id (s * 3) b.cells = some (H.set id ⟨tri (xs.set s b), true, true⟩) := by
  rw [storeAt_of h rfl rfl (by simp only [tri_length]; simp [Bk.cells]; omega) (by simp [Bk.cells, Value.oneCell']), tri_over hs]

theorem OwnBlocks.keep {H H' : Heap} {v : Value} {id : Nat} {bs : List Bk} (h : OwnBlocks H v id bs) {S : Nat → Prop} (hs : Same S H H') (hi : ¬ S id) : OwnBlocks H' v id bs := by
  obtain ⟨h1, h2, h3⟩ := h
  exact ⟨h1, h2.imp (fun h => h) fun hb => hs.get hb hi, h3⟩

theorem Same.set {H : Heap} {i : Nat} {b : Blk} : Same (fun j => j = i) H (H.set i b) :=
  ⟨by simp, fun _ _ hs => List.getElem?_set_ne (fun e => hs e.symm)⟩

end Go.Ab
end

section
/- Contracts of the laws' own helpers over blocks and systems. They hold for every program that holds these functions. -/
set_option linter.all false
set_option maxRecDepth 20000
namespace Go.Proofs.Ytdfeoccjllljiaa
open Go.Ab

theorem toBlock_ok {H : Heap} {b : Bk} (Post : Value → Heap → Prop) (h : ∀ H', H <+: H' → Post b.val H') :
    ACalls Try.prog 119 [b.val] H Post := by
  refine acalls_vc (rs := [.cell 2 93]) Try.func119 rfl rfl Try.ntmps119 rfl rfl ?_
  obtain ⟨a, b, c⟩ := b
  simp (maxSteps := 1000000) [go_sem, Bk.val, Value.oneCell']
  refine AWp.loopVc (fun s : Nat => [(1, .pointer (some ⟨H.length, 0, none⟩)), (2, .pointer (some ⟨H.length + 1, 0, none⟩)), (3, .pointer (some ⟨H.length + 2, 0, none⟩)), (4, .int .i64 s)])
    (fun s H' => s ≤ 3 ∧ H' = H ++ [⟨[.int .i64 a, .int .i64 b, .int .i64 c], true, true⟩, ⟨[.int .i64 0, .int .i64 0, .int .i64 0], true, true⟩, ⟨[.int .i64 a, .int .i64 b, .int .i64 c].take s ++ [.int .i64 0, .int .i64 0, .int .i64 0].drop s, true, true⟩]) (fun s => 3 - s) 0 ?_ ?_ ?_
  · simp [upF, Fr.get, Up.refl]
  · simp
  · rintro K s H' ⟨hs, rfl⟩ hK
    have : s = 0 ∨ s = 1 ∨ s = 2 ∨ s = 3 := by omega
    rcases this with rfl | rfl | rfl | rfl
    · simp (maxSteps := 1000000) [go_sem, Value.oneCell', i64w (n := 1) (by omega) (by omega)]
      exact hK 1 _ _ (by omega) (by simp [upF, Fr.get, Up.refl]) ⟨by omega, by simp⟩
    · simp (maxSteps := 1000000) [go_sem, Value.oneCell', i64w (n := 2) (by omega) (by omega)]
      exact hK 2 _ _ (by omega) (by simp [upF, Fr.get, Up.refl]) ⟨by omega, by simp⟩
    · simp (maxSteps := 1000000) [go_sem, Value.oneCell', i64w (n := 3) (by omega) (by omega)]
      exact hK 3 _ _ (by omega) (by simp [upF, Fr.get, Up.refl]) ⟨by omega, by simp⟩
    · simp (maxSteps := 1000000) [go_sem, Value.oneCell']
      exact h _ (List.prefix_append _ _)

theorem toBlockS_ok {H : Heap} {u : Value} {bs : List Bk} (hu : BlocksAt H u bs) (Post : Value → Heap → Prop) (hb : bs.length ≤ 1048576) (h : ∀ H' v id, H <+: H' → H.length ≤ id → OwnBlocks H' v id bs → Post v H') :
    ACalls Try.prog 57 [u] H Post := by
  obtain ⟨i, o, rfl, h1, h2⟩ := hu
  refine ACalls.res ?_
  refine acalls_vc (rs := [.tmp 2]) Try.func57 rfl rfl Try.ntmps57 rfl rfl ?_
  simp (maxSteps := 1000000) [go_sem, made_blocks]
  refine andK_intro (by omega) ?_
  refine AWp.loopVc (fun s : Nat => [(0, lv 3 i o bs.length), (3, .slice (some ⟨H.length, 0, none⟩) bs.length bs.length), (4, .int .i64 s)])
    (fun s H' => s ≤ bs.length ∧ H <+: H' ∧ H'[H.length]? = some ⟨tri (bs.take s ++ List.replicate (bs.length - s) ⟨0, 0, 0⟩), true, true⟩) (fun s => bs.length - s) 0 ?_ ?_ ?_
  · simp [upF, Fr.get, Up.refl]
  · refine ⟨by omega, List.prefix_append _ _, by simp⟩
  · rintro K s H' ⟨hs, hp, hc⟩ hK
    by_cases hlt : s < bs.length
    · have hbs : bs[s]? = some bs[s] := List.getElem?_eq_getElem hlt
      have c1 := (h1.pre hp).bk hbs
      have hw : IntKind.i64.wrap ((s : Int) + 1) = (s : Int) + 1 := i64w (by omega) (by omega)
      simp (maxSteps := 1000000) [go_sem, hlt, c1, Bk.cells]
      refine toBlock_ok (b := bs[s]) _ ?_
      intro H2 hp2
      have hlen : s < (bs.take s ++ List.replicate (bs.length - s) (⟨0, 0, 0⟩ : Bk)).length := by simp; omega
      have hst := storeBk (b := bs[s]) (Same.get (S := fun _ => False) (Same.of_prefix hp2) hc (fun h => h)) hlen
      have hset : (bs.take s ++ List.replicate (bs.length - s) (⟨0, 0, 0⟩ : Bk)).set s bs[s] = bs.take (s + 1) ++ List.replicate (bs.length - (s + 1)) ⟨0, 0, 0⟩ := by
        rw [List.set_append_right _ _ (by simp; omega), List.length_take, Nat.min_eq_left hs, Nat.sub_self, show bs.length - s = (bs.length - (s + 1)) + 1 by omega, List.replicate_succ, List.set_cons_zero, List.take_succ_eq_append_getElem hlt, List.append_assoc]
        rfl
      rw [hset] at hst
      simp only [Bk.cells] at hst
      have hlt2 : H.length < H2.length := by
        have := (List.getElem?_eq_some_iff.1 hc).1
        have := hp2.length_le
        omega
      simp (maxSteps := 1000000) [go_sem, Bk.val, hlt, hst, hw, Value.oneCell']
      refine hK (s + 1) _ _ (by omega) (by simp [upF, Fr.get, Up.refl]) ⟨by omega, ?_, by rw [List.getElem?_set_self hlt2]⟩
      exact (show Same (fun j => j = H.length) H _ from (Same.of_prefix (hp.trans hp2)).trans ⟨by simp, fun j hj hjs => List.getElem?_set_ne (fun e => hjs e.symm)⟩).prefix (by omega)
    · have : s = bs.length := by omega
      subst this
      simp (maxSteps := 1000000) [go_sem]
      simp only [List.take_length, Nat.sub_self, List.replicate_zero, List.append_nil] at hc
      refine ⟨lv 3 H.length 0 bs.length, Up.ex (by omega) ?_, h H' _ H.length hp (Nat.le_refl _) ⟨rfl, .inr hc, by omega⟩⟩
      right
      rw [(Holds.cells ⟨true, hc⟩ (by rw [tri_length]; omega))]; rfl

theorem eqBlock_ok {H : Heap} {b d : Bk} (Post : Value → Heap → Prop) (h : ∀ H', H <+: H' → Post (.bool (decide (b = d))) H') :
    ACalls Try.prog 124 [b.val, d.val] H Post := by
  refine acalls_vc (rs := [.tmp 4]) Try.func124 rfl rfl Try.ntmps124 rfl rfl ?_
  obtain ⟨b1, b2, b3⟩ := b
  obtain ⟨d1, d2, d3⟩ := d
  simp (maxSteps := 1000000) [go_sem, Bk.val, Value.oneCell']
  have h := h _ (List.prefix_append H [⟨[.int .i64 b1, .int .i64 b2, .int .i64 b3], true, true⟩, ⟨[.int .i64 d1, .int .i64 d2, .int .i64 d3], true, true⟩])
  refine AWp.loopVc (fun s : Nat => [(2, .pointer (some ⟨H.length, 0, none⟩)), (3, .pointer (some ⟨H.length + 1, 0, none⟩)), (5, .int .i64 s)])
    (fun s H' => s ≤ 3 ∧ H' = H ++ [⟨[.int .i64 b1, .int .i64 b2, .int .i64 b3], true, true⟩, ⟨[.int .i64 d1, .int .i64 d2, .int .i64 d3], true, true⟩] ∧ [b1, b2, b3].take s = [d1, d2, d3].take s) (fun s => 3 - s) 0 ?_ ?_ ?_
  · simp [upF, Fr.get, Up.refl]
  · simp
  · rintro K s H' ⟨hs, rfl, ht⟩ hK
    have : s = 0 ∨ s = 1 ∨ s = 2 ∨ s = 3 := by omega
    rcases this with rfl | rfl | rfl | rfl
    · simp (maxSteps := 1000000) [go_sem]
      refine AWp.draw mixed [(0, false), (1, false), (2, false), (3, false), (4, false), (5, false), (6, false)] (by kernel_rfl) ?_
      simp (maxSteps := 1000000) [go_sem, i64w (n := 1) (by omega) (by omega)]
      refine condK_intro (fun hne => ?_) (fun heq => ?_)
      · simp at hne; simpa [hne] using h
      · exact hK 1 _ _ (by omega) (by simp [upF, Fr.get, Up.refl]) ⟨by omega, rfl, by simpa using heq⟩
    · simp (maxSteps := 1000000) [go_sem]
      refine AWp.draw mixed [(0, false), (1, false), (2, false), (3, false), (4, false), (5, false), (6, false)] (by kernel_rfl) ?_
      simp (maxSteps := 1000000) [go_sem, i64w (n := 2) (by omega) (by omega)]
      refine condK_intro (fun hne => ?_) (fun heq => ?_)
      · simp at hne; simpa [hne] using h
      · exact hK 2 _ _ (by omega) (by simp [upF, Fr.get, Up.refl]) ⟨by omega, rfl, by simp at ht heq; simp [ht, heq]⟩
    · simp (maxSteps := 1000000) [go_sem]
      refine AWp.draw mixed [(0, false), (1, false), (2, false), (3, false), (4, false), (5, false), (6, false)] (by kernel_rfl) ?_
      simp (maxSteps := 1000000) [go_sem, i64w (n := 3) (by omega) (by omega)]
      refine condK_intro (fun hne => ?_) (fun heq => ?_)
      · simp at hne; simpa [hne] using h
      · exact hK 3 _ _ (by omega) (by simp [upF, Fr.get, Up.refl]) ⟨by omega, rfl, by simp at ht heq; simp [ht, heq]⟩
    · simp (maxSteps := 1000000) [go_sem]
      simp at ht
      simpa [ht] using h

theorem eqBlockS_ok {H : Heap} {u v : Value} {xs ys : List Bk} (hu : BlocksAt H u xs) (hv : BlocksAt H v ys) (Post : Value → Heap → Prop) (h : ∀ H', H <+: H' → Post (.bool (decide (xs = ys))) H') :
    ACalls Try.prog 59 [u, v] H Post := by
  obtain ⟨i, o, rfl, h1, h2⟩ := hu
  obtain ⟨j, q, rfl, h3, h4⟩ := hv
  refine acalls_vc (rs := [.tmp 4]) Try.func59 rfl rfl Try.ntmps59 rfl rfl ?_
  simp (maxSteps := 1000000) [go_sem]
  refine condK_intro (fun hne => ?_) (fun heq => ?_)
  · have : xs ≠ ys := by rintro rfl; simp at hne
    simpa [this] using h H (List.prefix_refl _)
  · have hlen : xs.length = ys.length := by simp at heq; omega
    refine AWp.loopVc (fun s : Nat => [(0, lv 3 i o xs.length), (1, lv 3 j q ys.length), (5, .int .i64 s)]) (fun s H' => H <+: H' ∧ s ≤ xs.length ∧ xs.take s = ys.take s) (fun s => xs.length - s) 0 ?_ ?_ ?_
    · simp [upF, Fr.get, Up.refl]
    · exact ⟨List.prefix_refl _, by omega, by simp⟩
    · rintro K s H' ⟨hp, hs, ht⟩ hK
      simp (maxSteps := 1000000) [go_sem]
      refine condK_intro (fun hlt => ?_) (fun hge => ?_)
      · have hlt : s < xs.length := by simpa using hlt
        have c1 := (h1.pre hp).bk (s := s) (b := xs[s]) (List.getElem?_eq_getElem _)
        have c2 := (h3.pre hp).bk (s := s) (b := ys[s]'(by omega)) (List.getElem?_eq_getElem _)
        simp only [Bk.cells] at c1 c2
        have hw : IntKind.i64.wrap ((s : Int) + 1) = (s : Int) + 1 := i64w (by omega) (by omega)
        refine AWp.draw mixed [(0, false), (1, false), (2, false), (3, false), (4, false), (5, false), (6, false), (7, false), (8, false), (9, false)] (by kernel_rfl) ?_
        simp (maxSteps := 1000000) [go_sem, hlt, hlen ▸ hlt, c1, c2]
        refine eqBlock_ok (b := xs[s]) (d := ys[s]'(by omega)) _ ?_
        intro H2 hp2
        simp (maxSteps := 1000000) [go_sem, hw]
        refine condK_intro (fun hne => ?_) (fun heq => ?_)
        · have : xs ≠ ys := by rintro rfl; simp at hne
          simpa [this] using h H2 (hp.trans hp2)
        · refine hK (s + 1) _ _ (by omega) (by simp [upF, Fr.get, Up.refl]) ⟨hp.trans hp2, by omega, ?_⟩
          have he : xs[s] = ys[s]'(by omega) := by simpa using heq
          rw [List.take_succ_eq_append_getElem hlt, List.take_succ_eq_append_getElem (by omega), ht, he]
      · have : s = xs.length := by simp at hge; omega
        subst this
        rw [List.take_length, hlen, List.take_length] at ht
        simpa [ht] using h H' hp

end Go.Proofs.Ytdfeoccjllljiaa
end

section
/- SquareOf, of the program and of the specification: what each computes. They hold for every number. -/
set_option linter.all false
set_option maxRecDepth 20000
namespace Go.Proofs.Ytdfeoccjllljiaa
open Go.Ab

theorem within_ok {H : Heap} {n lo hi : Int} (Post : Value → Heap → Prop) (h : Post (.bool (decide (lo ≤ n) && decide (n ≤ hi))) H) :
    ACalls Try.prog 93 [.int .i64 n, .int .i64 lo, .int .i64 hi] H Post := by
  refine acalls_vc (rs := [.tmp 6]) Try.func93 rfl rfl Try.ntmps93 rfl rfl ?_
  simp (maxSteps := 1000000) [go_sem]
  refine condK_intro (fun h1 => ?_) (fun h1 => ?_) <;> simp_all

theorem l01In_ok {H : Heap} {n lo hi : Int} (Post : Value → Heap → Prop) (h : Post (.bool (decide (lo ≤ n) && decide (n ≤ hi))) H) :
    ACalls Try.prog 116 [.int .i64 n, .int .i64 lo, .int .i64 hi] H Post := by
  refine acalls_vc (rs := [.tmp 6]) Try.func116 rfl rfl Try.ntmps116 rfl rfl ?_
  simp (maxSteps := 1000000) [go_sem]
  refine condK_intro (fun h1 => ?_) (fun h1 => ?_) <;> simp_all

end Go.Proofs.Ytdfeoccjllljiaa
end

section
/- Systems in plain terms: what is a good block, what comes before, what fits. No program is in sight here. -/
set_option linter.all false
namespace Go.Ab

def good (v : Int) (b : Bk) : Bool := decide (0 ≤ b.a) && decide (b.a < b.b) && decide (b.b < b.c) && decide (b.c < v)
def before (x y : Bk) : Bool := if x.a ≠ y.a then decide (x.a < y.a) else if x.b ≠ y.b then decide (x.b < y.b) else decide (x.c < y.c)
def eq01 (x y : Int) : Nat := if x = y then 1 else 0
def common (x y : Bk) : Nat := eq01 x.a y.a + eq01 x.a y.b + eq01 x.a y.c + (eq01 x.b y.a + eq01 x.b y.b + eq01 x.b y.c) + (eq01 x.c y.a + eq01 x.c y.b + eq01 x.c y.c)
/-- The numbers of a block by their place. -/
def Bk.nth (b : Bk) (i : Nat) : Int := if i = 0 then b.a else if i = 1 then b.b else b.c
/-- How many of the first pairs are equal: i rows and k more. -/
def cnt (x y : Bk) (i k : Nat) : Nat :=
  (if 0 < i then eq01 x.a y.a + eq01 x.a y.b + eq01 x.a y.c else 0) + (if 1 < i then eq01 x.b y.a + eq01 x.b y.b + eq01 x.b y.c else 0) + (if 2 < i then eq01 x.c y.a + eq01 x.c y.b + eq01 x.c y.c else 0) +
  ((if 0 < k then eq01 (x.nth i) y.a else 0) + (if 1 < k then eq01 (x.nth i) y.b else 0) + (if 2 < k then eq01 (x.nth i) y.c else 0))

theorem eq01_le (x y : Int) : eq01 x y ≤ 1 := by unfold eq01; split <;> omega
theorem ite_le (p : Prop) [Decidable p] (a : Nat) : (if p then a else 0) ≤ a := by split <;> omega
theorem cnt_le (x y : Bk) (i k : Nat) : cnt x y i k ≤ 12 := by
  have a1 := eq01_le x.a y.a; have a2 := eq01_le x.a y.b; have a3 := eq01_le x.a y.c
  have b1 := eq01_le x.b y.a; have b2 := eq01_le x.b y.b; have b3 := eq01_le x.b y.c
  have c1 := eq01_le x.c y.a; have c2 := eq01_le x.c y.b; have c3 := eq01_le x.c y.c
  have d1 := eq01_le (x.nth i) y.a; have d2 := eq01_le (x.nth i) y.b; have d3 := eq01_le (x.nth i) y.c
  have e1 := ite_le (0 < i) (eq01 x.a y.a + eq01 x.a y.b + eq01 x.a y.c)
  have e2 := ite_le (1 < i) (eq01 x.b y.a + eq01 x.b y.b + eq01 x.b y.c)
  have e3 := ite_le (2 < i) (eq01 x.c y.a + eq01 x.c y.b + eq01 x.c y.c)
  have e4 := ite_le (0 < k) (eq01 (x.nth i) y.a)
  have e5 := ite_le (1 < k) (eq01 (x.nth i) y.b)
  have e6 := ite_le (2 < k) (eq01 (x.nth i) y.c)
  unfold cnt
  omega
theorem cnt_succ (x y : Bk) (i : Nat) {k : Nat} (h : k < 3) : cnt x y i (k + 1) = cnt x y i k + eq01 (x.nth i) (y.nth k) := by
  have : k = 0 ∨ k = 1 ∨ k = 2 := by omega
  rcases this with rfl | rfl | rfl <;> simp [cnt, Bk.nth] <;> omega
theorem cnt_end (x y : Bk) {i : Nat} (h : i < 3) : cnt x y i 3 = cnt x y (i + 1) 0 := by
  have : i = 0 ∨ i = 1 ∨ i = 2 := by omega
  rcases this with rfl | rfl | rfl <;> simp [cnt, Bk.nth] <;> omega
theorem cnt_all (x y : Bk) : cnt x y 3 0 = common x y := by simp [cnt, common]

/-- The first n blocks fit, each with those ahead of it. -/
def Fits (bs : List Bk) : Prop := ∀ (i k : Nat) (x y : Bk), k < i → bs[i]? = some x → bs[k]? = some y → common x y ≤ 1
/-- Each block is good and comes behind the one ahead of it. -/
def Sorted (v : Int) (bs : List Bk) : Prop := ∀ (i : Nat) (x : Bk), bs[i]? = some x → good v x = true ∧ ∀ y, 0 < i → bs[i - 1]? = some y → before y x = true
def IsSys (p : Int) (bs : List Bk) : Prop := (3 ≤ p ∧ p ≤ 15) ∧ bs.length ≤ 35 ∧ Sorted p bs ∧ Fits bs

/-- A list is strictly ascending, from 0 to below n. -/
def Rises (n : Int) (xs : List Int) : Prop := ∀ (a : Nat) (x : Int), xs[a]? = some x → (0 ≤ x ∧ x < n) ∧ ∀ y, 0 < a → xs[a - 1]? = some y → y < x

theorem rises_block (v : Int) (b : Bk) : Rises v [b.a, b.b, b.c] ↔ good v b = true := by
  simp only [good, Bool.and_eq_true, decide_eq_true_eq]
  constructor
  · intro h
    have h0 := h 0 b.a rfl
    have h1 := h 1 b.b rfl
    have h2 := h 2 b.c rfl
    have := h1.2 b.a (by omega) rfl
    have := h2.2 b.b (by omega) rfl
    omega
  · intro h a x hx
    match a, hx with
    | 0, hx => simp at hx; subst hx; exact ⟨by omega, by omega⟩
    | 1, hx => simp at hx; subst hx; exact ⟨by omega, fun y _ hy => by simp at hy; omega⟩
    | 2, hx => simp at hx; subst hx; exact ⟨by omega, fun y _ hy => by simp at hy; omega⟩
    | a + 3, hx => simp at hx

/-- How two lists compare. -/
def lexC : List Int → List Int → Int
  | [], [] => 0
  | [], _ :: _ => -1
  | _ :: _, [] => 1
  | x :: xs, y :: ys => if x < y then -1 else if y < x then 1 else lexC xs ys

theorem lexC_block (x y : Bk) : (0 ≤ lexC [x.a, x.b, x.c] [y.a, y.b, y.c]) ↔ before x y = false := by
  simp only [lexC, before]
  repeat' split
  all_goals simp_all
  all_goals omega

end Go.Ab
end
