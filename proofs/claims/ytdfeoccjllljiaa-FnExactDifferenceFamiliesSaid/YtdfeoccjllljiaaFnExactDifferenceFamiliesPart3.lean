/- Part 3 of what the proof of the law FnExactDifferenceFamilies rests on: contracts of functions of the program, for every argument that each names; no statement of the seat is proved here. -/
import Derived.Test.YtdfeoccjllljiaaProg
import Derived.KernelRfl
import Derived.Test.YtdfeoccjllljiaaRows
import Derived.RangeFuncBox
import Derived.RangeFuncLeaves
import Derived.Shelf.Abstract
import Derived.WalkKit
import Derived.OwnWalkIn
import Derived.TacticsInMore
import Derived.LoopNIn
import Derived.LoopIn
import Derived.Maps.AppendAt
import Derived.Sort.LotA
import Derived.Sort.LotD3
import Derived.Sort.LotB
import Derived.Sort.LotC
import Derived.Test.YtdfeoccjllljiaaFnExactDifferenceFamiliesPart2

section
/- For each type of the translation: what the logic asks of it, as the kernel reckons it. -/
set_option linter.all false
namespace Go.Proofs.Ytdfeoccjllljiaa
open Go.Ab

theorem ti2 : ti Try.prog 2 = some ⟨.int .i64, 1, 8, (.int .i64 0)⟩ := by kernel_rfl
theorem zok2 : zeroOK Try.prog 2 = true := by kernel_rfl
theorem ti3 : ti Try.prog 3 = some ⟨.int .i64, 1, 8, (.int .i64 0)⟩ := by kernel_rfl
theorem zok3 : zeroOK Try.prog 3 = true := by kernel_rfl
theorem ti4 : ti Try.prog 4 = some ⟨.bool, 1, 1, (.bool false)⟩ := by kernel_rfl
theorem zok4 : zeroOK Try.prog 4 = true := by kernel_rfl
theorem ti5 : ti Try.prog 5 = some ⟨.int .u8, 1, 1, (.int .u8 0)⟩ := by kernel_rfl
theorem zok5 : zeroOK Try.prog 5 = true := by kernel_rfl
theorem ti6 : ti Try.prog 6 = some ⟨.int .u8, 1, 1, (.int .u8 0)⟩ := by kernel_rfl
theorem zok6 : zeroOK Try.prog 6 = true := by kernel_rfl
theorem ti7 : ti Try.prog 7 = some ⟨.struct (Try.prog.fieldsOf 7), 4, 24, (.agg #[(.int .i64 0), (.int .i64 0), (.bool false), (.int .u8 0)])⟩ := by kernel_rfl
theorem zok7 : zeroOK Try.prog 7 = true := by kernel_rfl
theorem ti8 : ti Try.prog 8 = some ⟨.struct (Try.prog.fieldsOf 8), 4, 24, (.agg #[(.int .i64 0), (.int .i64 0), (.bool false), (.int .u8 0)])⟩ := by kernel_rfl
theorem zok8 : zeroOK Try.prog 8 = true := by kernel_rfl
theorem ti9 : ti Try.prog 9 = some ⟨.string, 1, 16, (.string ⟨#[]⟩)⟩ := by kernel_rfl
theorem zok9 : zeroOK Try.prog 9 = true := by kernel_rfl
theorem ti10 : ti Try.prog 10 = some ⟨.string, 1, 16, (.string ⟨#[]⟩)⟩ := by kernel_rfl
theorem zok10 : zeroOK Try.prog 10 = true := by kernel_rfl
theorem ti11 : ti Try.prog 11 = some ⟨.string, 1, 16, (.string ⟨#[]⟩)⟩ := by kernel_rfl
theorem zok11 : zeroOK Try.prog 11 = true := by kernel_rfl
theorem ti12 : ti Try.prog 12 = some ⟨.int .u64, 1, 8, (.int .u64 0)⟩ := by kernel_rfl
theorem zok12 : zeroOK Try.prog 12 = true := by kernel_rfl
theorem ti13 : ti Try.prog 13 = some ⟨.struct (Try.prog.fieldsOf 13), 2, 24, (.agg #[(.string ⟨#[]⟩), (.int .u64 0)])⟩ := by kernel_rfl
theorem zok13 : zeroOK Try.prog 13 = true := by kernel_rfl
theorem ti14 : ti Try.prog 14 = some ⟨.struct (Try.prog.fieldsOf 14), 2, 24, (.agg #[(.string ⟨#[]⟩), (.int .u64 0)])⟩ := by kernel_rfl
theorem zok14 : zeroOK Try.prog 14 = true := by kernel_rfl
theorem ti15 : ti Try.prog 15 = some ⟨.pointer 219, 1, 8, (.pointer none)⟩ := by kernel_rfl
theorem zok15 : zeroOK Try.prog 15 = true := by kernel_rfl
theorem ti16 : ti Try.prog 16 = some ⟨.pointer 222, 1, 8, (.pointer none)⟩ := by kernel_rfl
theorem zok16 : zeroOK Try.prog 16 = true := by kernel_rfl
theorem ti17 : ti Try.prog 17 = some ⟨.pointer 231, 1, 8, (.pointer none)⟩ := by kernel_rfl
theorem zok17 : zeroOK Try.prog 17 = true := by kernel_rfl
theorem ti18 : ti Try.prog 18 = some ⟨.struct (Try.prog.fieldsOf 18), 1, 8, (.agg #[(.pointer none)])⟩ := by kernel_rfl
theorem zok18 : zeroOK Try.prog 18 = true := by kernel_rfl
theorem ti19 : ti Try.prog 19 = some ⟨.struct (Try.prog.fieldsOf 19), 1, 8, (.agg #[(.pointer none)])⟩ := by kernel_rfl
theorem zok19 : zeroOK Try.prog 19 = true := by kernel_rfl
theorem ti21 : ti Try.prog 21 = some ⟨.int .i32, 1, 4, (.int .i32 0)⟩ := by kernel_rfl
theorem zok21 : zeroOK Try.prog 21 = true := by kernel_rfl
theorem ti22 : ti Try.prog 22 = some ⟨.slice 92, 1, 24, (.slice none 0 0)⟩ := by kernel_rfl
theorem zok22 : zeroOK Try.prog 22 = true := by kernel_rfl
theorem ti23 : ti Try.prog 23 = some ⟨.struct (Try.prog.fieldsOf 23), 3, 56, (.agg #[(.int .i64 0), (.slice none 0 0), (.slice none 0 0)])⟩ := by kernel_rfl
theorem zok23 : zeroOK Try.prog 23 = true := by kernel_rfl
theorem ti24 : ti Try.prog 24 = some ⟨.struct (Try.prog.fieldsOf 24), 3, 56, (.agg #[(.int .i64 0), (.slice none 0 0), (.slice none 0 0)])⟩ := by kernel_rfl
theorem zok24 : zeroOK Try.prog 24 = true := by kernel_rfl
theorem ti28 : ti Try.prog 28 = some ⟨.slice 93, 1, 24, (.slice none 0 0)⟩ := by kernel_rfl
theorem zok28 : zeroOK Try.prog 28 = true := by kernel_rfl
theorem ti29 : ti Try.prog 29 = some ⟨.struct (Try.prog.fieldsOf 29), 3, 56, (.agg #[(.int .i64 0), (.slice none 0 0), (.slice none 0 0)])⟩ := by kernel_rfl
theorem zok29 : zeroOK Try.prog 29 = true := by kernel_rfl
theorem ti30 : ti Try.prog 30 = some ⟨.struct (Try.prog.fieldsOf 30), 3, 56, (.agg #[(.int .i64 0), (.slice none 0 0), (.slice none 0 0)])⟩ := by kernel_rfl
theorem zok30 : zeroOK Try.prog 30 = true := by kernel_rfl
theorem ti34 : ti Try.prog 34 = some ⟨.struct (Try.prog.fieldsOf 34), 2, 32, (.agg #[(.int .i64 0), (.slice none 0 0)])⟩ := by kernel_rfl
theorem zok34 : zeroOK Try.prog 34 = true := by kernel_rfl
theorem ti35 : ti Try.prog 35 = some ⟨.struct (Try.prog.fieldsOf 35), 2, 32, (.agg #[(.int .i64 0), (.slice none 0 0)])⟩ := by kernel_rfl
theorem zok35 : zeroOK Try.prog 35 = true := by kernel_rfl
theorem ti37 : ti Try.prog 37 = some ⟨.struct (Try.prog.fieldsOf 37), 2, 32, (.agg #[(.int .i64 0), (.slice none 0 0)])⟩ := by kernel_rfl
theorem zok37 : zeroOK Try.prog 37 = true := by kernel_rfl
theorem ti38 : ti Try.prog 38 = some ⟨.struct (Try.prog.fieldsOf 38), 2, 32, (.agg #[(.int .i64 0), (.slice none 0 0)])⟩ := by kernel_rfl
theorem zok38 : zeroOK Try.prog 38 = true := by kernel_rfl
theorem ti45 : ti Try.prog 45 = some ⟨.slice 30, 1, 24, (.slice none 0 0)⟩ := by kernel_rfl
theorem zok45 : zeroOK Try.prog 45 = true := by kernel_rfl
theorem ti51 : ti Try.prog 51 = some ⟨.slice 56, 1, 24, (.slice none 0 0)⟩ := by kernel_rfl
theorem zok51 : zeroOK Try.prog 51 = true := by kernel_rfl
theorem ti56 : ti Try.prog 56 = some ⟨.slice 2, 1, 24, (.slice none 0 0)⟩ := by kernel_rfl
theorem zok56 : zeroOK Try.prog 56 = true := by kernel_rfl
theorem ti63 : ti Try.prog 63 = some ⟨.slice 51, 1, 24, (.slice none 0 0)⟩ := by kernel_rfl
theorem zok63 : zeroOK Try.prog 63 = true := by kernel_rfl
theorem ti92 : ti Try.prog 92 = some ⟨.array 3 2, 3, 24, (.agg #[(.int .i64 0), (.int .i64 0), (.int .i64 0)])⟩ := by kernel_rfl
theorem zok92 : zeroOK Try.prog 92 = true := by kernel_rfl
theorem ti93 : ti Try.prog 93 = some ⟨.array 3 2, 3, 24, (.agg #[(.int .i64 0), (.int .i64 0), (.int .i64 0)])⟩ := by kernel_rfl
theorem zok93 : zeroOK Try.prog 93 = true := by kernel_rfl
theorem ti96 : ti Try.prog 96 = some ⟨.pointer 172, 1, 8, (.pointer none)⟩ := by kernel_rfl
theorem zok96 : zeroOK Try.prog 96 = true := by kernel_rfl
theorem ti129 : ti Try.prog 129 = some ⟨.slice 28, 1, 24, (.slice none 0 0)⟩ := by kernel_rfl
theorem zok129 : zeroOK Try.prog 129 = true := by kernel_rfl
theorem ti136 : ti Try.prog 136 = some ⟨.array 15 2, 15, 120, (.agg (Array.replicate 15 (.int .i64 0)))⟩ := by kernel_rfl
theorem zok136 : zeroOK Try.prog 136 = true := by kernel_rfl
theorem ti138 : ti Try.prog 138 = some ⟨.int .u64, 1, 8, (.int .u64 0)⟩ := by kernel_rfl
theorem zok138 : zeroOK Try.prog 138 = true := by kernel_rfl
theorem ti152 : ti Try.prog 152 = some ⟨.slice 4, 1, 24, (.slice none 0 0)⟩ := by kernel_rfl
theorem zok152 : zeroOK Try.prog 152 = true := by kernel_rfl
theorem ti157 : ti Try.prog 157 = some ⟨.slice 158, 1, 24, (.slice none 0 0)⟩ := by kernel_rfl
theorem zok157 : zeroOK Try.prog 157 = true := by kernel_rfl
theorem ti158 : ti Try.prog 158 = some ⟨.array 2 2, 2, 16, (.agg #[(.int .i64 0), (.int .i64 0)])⟩ := by kernel_rfl
theorem zok158 : zeroOK Try.prog 158 = true := by kernel_rfl
theorem ti170 : ti Try.prog 170 = some ⟨.int .u64, 1, 8, (.int .u64 0)⟩ := by kernel_rfl
theorem zok170 : zeroOK Try.prog 170 = true := by kernel_rfl
theorem ti171 : ti Try.prog 171 = some ⟨.array 15 136, 225, 1800, (.agg (Array.replicate 225 (.int .i64 0)))⟩ := by kernel_rfl
theorem zok171 : zeroOK Try.prog 171 = true := by kernel_rfl
theorem ti172 : ti Try.prog 172 = some ⟨.array 15 136, 225, 1800, (.agg (Array.replicate 225 (.int .i64 0)))⟩ := by kernel_rfl
theorem zok172 : zeroOK Try.prog 172 = true := by kernel_rfl
theorem ti179 : ti Try.prog 179 = some ⟨.int .i64, 1, 8, (.int .i64 0)⟩ := by kernel_rfl
theorem zok179 : zeroOK Try.prog 179 = true := by kernel_rfl
theorem ti188 : ti Try.prog 188 = some ⟨.int .u32, 1, 4, (.int .u32 0)⟩ := by kernel_rfl
theorem zok188 : zeroOK Try.prog 188 = true := by kernel_rfl
theorem ti192 : ti Try.prog 192 = some ⟨.int .u64, 1, 8, (.int .u64 0)⟩ := by kernel_rfl
theorem zok192 : zeroOK Try.prog 192 = true := by kernel_rfl
theorem ti196 : ti Try.prog 196 = some ⟨.pointer 3, 1, 8, (.pointer none)⟩ := by kernel_rfl
theorem zok196 : zeroOK Try.prog 196 = true := by kernel_rfl
theorem ti208 : ti Try.prog 208 = some ⟨.pointer 192, 1, 8, (.pointer none)⟩ := by kernel_rfl
theorem zok208 : zeroOK Try.prog 208 = true := by kernel_rfl
theorem ti218 : ti Try.prog 218 = some ⟨.struct (Try.prog.fieldsOf 218), 4, 40, (.agg #[(.pointer none), (.pointer none), (.pointer none), (.string ⟨#[]⟩)])⟩ := by kernel_rfl
theorem zok218 : zeroOK Try.prog 218 = true := by kernel_rfl
theorem ti219 : ti Try.prog 219 = some ⟨.struct (Try.prog.fieldsOf 219), 4, 40, (.agg #[(.pointer none), (.pointer none), (.pointer none), (.string ⟨#[]⟩)])⟩ := by kernel_rfl
theorem zok219 : zeroOK Try.prog 219 = true := by kernel_rfl
theorem ti220 : ti Try.prog 220 = some ⟨.array 0 16, 0, 0, (.agg #[])⟩ := by kernel_rfl
theorem zok220 : zeroOK Try.prog 220 = true := by kernel_rfl
theorem ti221 : ti Try.prog 221 = some ⟨.struct (Try.prog.fieldsOf 221), 0, 0, (.agg #[])⟩ := by kernel_rfl
theorem zok221 : zeroOK Try.prog 221 = true := by kernel_rfl
theorem ti222 : ti Try.prog 222 = some ⟨.struct (Try.prog.fieldsOf 222), 0, 0, (.agg #[])⟩ := by kernel_rfl
theorem zok222 : zeroOK Try.prog 222 = true := by kernel_rfl
theorem ti224 : ti Try.prog 224 = some ⟨.int .u8, 1, 1, (.int .u8 0)⟩ := by kernel_rfl
theorem zok224 : zeroOK Try.prog 224 = true := by kernel_rfl
theorem ti225 : ti Try.prog 225 = some ⟨.int .u8, 1, 1, (.int .u8 0)⟩ := by kernel_rfl
theorem zok225 : zeroOK Try.prog 225 = true := by kernel_rfl
theorem ti227 : ti Try.prog 227 = some ⟨.pointer 5, 1, 8, (.pointer none)⟩ := by kernel_rfl
theorem zok227 : zeroOK Try.prog 227 = true := by kernel_rfl
theorem ti228 : ti Try.prog 228 = some ⟨.int .i32, 1, 4, (.int .i32 0)⟩ := by kernel_rfl
theorem zok228 : zeroOK Try.prog 228 = true := by kernel_rfl
theorem ti229 : ti Try.prog 229 = some ⟨.int .i32, 1, 4, (.int .i32 0)⟩ := by kernel_rfl
theorem zok229 : zeroOK Try.prog 229 = true := by kernel_rfl
theorem ti230 : ti Try.prog 230 = some ⟨.struct (Try.prog.fieldsOf 230), 11, 48, (.agg #[(.int .u64 0), (.int .u64 0), (.int .u32 0), (.int .u8 0), (.int .u8 0), (.int .u8 0), (.int .u8 0), .nilFunc, (.pointer none), (.int .i32 0), (.int .i32 0)])⟩ := by kernel_rfl
theorem zok230 : zeroOK Try.prog 230 = true := by kernel_rfl
theorem ti231 : ti Try.prog 231 = some ⟨.struct (Try.prog.fieldsOf 231), 11, 48, (.agg #[(.int .u64 0), (.int .u64 0), (.int .u32 0), (.int .u8 0), (.int .u8 0), (.int .u8 0), (.int .u8 0), .nilFunc, (.pointer none), (.int .i32 0), (.int .i32 0)])⟩ := by kernel_rfl
theorem zok231 : zeroOK Try.prog 231 = true := by kernel_rfl
theorem bt7_  : Try.prog.built 7 [] = some #[(.int .i64 0), (.int .i64 0), (.bool false), (.int .u8 0)] := by kernel_rfl
theorem bt7_0 (x0 : Int) : Try.prog.built 7 [(0, (.int .i64 x0))] = some #[(.int .i64 x0), (.int .i64 0), (.bool false), (.int .u8 0)] := by kernel_rfl
theorem bt7_1 (x1 : Int) : Try.prog.built 7 [(1, (.int .i64 x1))] = some #[(.int .i64 0), (.int .i64 x1), (.bool false), (.int .u8 0)] := by kernel_rfl
theorem bt7_2 (x2 : Bool) : Try.prog.built 7 [(2, (.bool x2))] = some #[(.int .i64 0), (.int .i64 0), (.bool x2), (.int .u8 0)] := by kernel_rfl
theorem bt7_3 (x3 : Int) : Try.prog.built 7 [(3, (.int .u8 x3))] = some #[(.int .i64 0), (.int .i64 0), (.bool false), (.int .u8 x3)] := by kernel_rfl
theorem bt7_01 (x0 : Int) (x1 : Int) : Try.prog.built 7 [(0, (.int .i64 x0)), (1, (.int .i64 x1))] = some #[(.int .i64 x0), (.int .i64 x1), (.bool false), (.int .u8 0)] := by kernel_rfl
theorem bt7_02 (x0 : Int) (x2 : Bool) : Try.prog.built 7 [(0, (.int .i64 x0)), (2, (.bool x2))] = some #[(.int .i64 x0), (.int .i64 0), (.bool x2), (.int .u8 0)] := by kernel_rfl
theorem bt7_03 (x0 : Int) (x3 : Int) : Try.prog.built 7 [(0, (.int .i64 x0)), (3, (.int .u8 x3))] = some #[(.int .i64 x0), (.int .i64 0), (.bool false), (.int .u8 x3)] := by kernel_rfl
theorem bt7_12 (x1 : Int) (x2 : Bool) : Try.prog.built 7 [(1, (.int .i64 x1)), (2, (.bool x2))] = some #[(.int .i64 0), (.int .i64 x1), (.bool x2), (.int .u8 0)] := by kernel_rfl
theorem bt7_13 (x1 : Int) (x3 : Int) : Try.prog.built 7 [(1, (.int .i64 x1)), (3, (.int .u8 x3))] = some #[(.int .i64 0), (.int .i64 x1), (.bool false), (.int .u8 x3)] := by kernel_rfl
theorem bt7_23 (x2 : Bool) (x3 : Int) : Try.prog.built 7 [(2, (.bool x2)), (3, (.int .u8 x3))] = some #[(.int .i64 0), (.int .i64 0), (.bool x2), (.int .u8 x3)] := by kernel_rfl
theorem bt7_012 (x0 : Int) (x1 : Int) (x2 : Bool) : Try.prog.built 7 [(0, (.int .i64 x0)), (1, (.int .i64 x1)), (2, (.bool x2))] = some #[(.int .i64 x0), (.int .i64 x1), (.bool x2), (.int .u8 0)] := by kernel_rfl
theorem bt7_013 (x0 : Int) (x1 : Int) (x3 : Int) : Try.prog.built 7 [(0, (.int .i64 x0)), (1, (.int .i64 x1)), (3, (.int .u8 x3))] = some #[(.int .i64 x0), (.int .i64 x1), (.bool false), (.int .u8 x3)] := by kernel_rfl
theorem bt7_023 (x0 : Int) (x2 : Bool) (x3 : Int) : Try.prog.built 7 [(0, (.int .i64 x0)), (2, (.bool x2)), (3, (.int .u8 x3))] = some #[(.int .i64 x0), (.int .i64 0), (.bool x2), (.int .u8 x3)] := by kernel_rfl
theorem bt7_123 (x1 : Int) (x2 : Bool) (x3 : Int) : Try.prog.built 7 [(1, (.int .i64 x1)), (2, (.bool x2)), (3, (.int .u8 x3))] = some #[(.int .i64 0), (.int .i64 x1), (.bool x2), (.int .u8 x3)] := by kernel_rfl
theorem bt7_0123 (x0 : Int) (x1 : Int) (x2 : Bool) (x3 : Int) : Try.prog.built 7 [(0, (.int .i64 x0)), (1, (.int .i64 x1)), (2, (.bool x2)), (3, (.int .u8 x3))] = some #[(.int .i64 x0), (.int .i64 x1), (.bool x2), (.int .u8 x3)] := by kernel_rfl
theorem bt8_  : Try.prog.built 8 [] = some #[(.int .i64 0), (.int .i64 0), (.bool false), (.int .u8 0)] := by kernel_rfl
theorem bt8_0 (x0 : Int) : Try.prog.built 8 [(0, (.int .i64 x0))] = some #[(.int .i64 x0), (.int .i64 0), (.bool false), (.int .u8 0)] := by kernel_rfl
theorem bt8_1 (x1 : Int) : Try.prog.built 8 [(1, (.int .i64 x1))] = some #[(.int .i64 0), (.int .i64 x1), (.bool false), (.int .u8 0)] := by kernel_rfl
theorem bt8_2 (x2 : Bool) : Try.prog.built 8 [(2, (.bool x2))] = some #[(.int .i64 0), (.int .i64 0), (.bool x2), (.int .u8 0)] := by kernel_rfl
theorem bt8_3 (x3 : Int) : Try.prog.built 8 [(3, (.int .u8 x3))] = some #[(.int .i64 0), (.int .i64 0), (.bool false), (.int .u8 x3)] := by kernel_rfl
theorem bt8_01 (x0 : Int) (x1 : Int) : Try.prog.built 8 [(0, (.int .i64 x0)), (1, (.int .i64 x1))] = some #[(.int .i64 x0), (.int .i64 x1), (.bool false), (.int .u8 0)] := by kernel_rfl
theorem bt8_02 (x0 : Int) (x2 : Bool) : Try.prog.built 8 [(0, (.int .i64 x0)), (2, (.bool x2))] = some #[(.int .i64 x0), (.int .i64 0), (.bool x2), (.int .u8 0)] := by kernel_rfl
theorem bt8_03 (x0 : Int) (x3 : Int) : Try.prog.built 8 [(0, (.int .i64 x0)), (3, (.int .u8 x3))] = some #[(.int .i64 x0), (.int .i64 0), (.bool false), (.int .u8 x3)] := by kernel_rfl
theorem bt8_12 (x1 : Int) (x2 : Bool) : Try.prog.built 8 [(1, (.int .i64 x1)), (2, (.bool x2))] = some #[(.int .i64 0), (.int .i64 x1), (.bool x2), (.int .u8 0)] := by kernel_rfl
theorem bt8_13 (x1 : Int) (x3 : Int) : Try.prog.built 8 [(1, (.int .i64 x1)), (3, (.int .u8 x3))] = some #[(.int .i64 0), (.int .i64 x1), (.bool false), (.int .u8 x3)] := by kernel_rfl
theorem bt8_23 (x2 : Bool) (x3 : Int) : Try.prog.built 8 [(2, (.bool x2)), (3, (.int .u8 x3))] = some #[(.int .i64 0), (.int .i64 0), (.bool x2), (.int .u8 x3)] := by kernel_rfl
theorem bt8_012 (x0 : Int) (x1 : Int) (x2 : Bool) : Try.prog.built 8 [(0, (.int .i64 x0)), (1, (.int .i64 x1)), (2, (.bool x2))] = some #[(.int .i64 x0), (.int .i64 x1), (.bool x2), (.int .u8 0)] := by kernel_rfl
theorem bt8_013 (x0 : Int) (x1 : Int) (x3 : Int) : Try.prog.built 8 [(0, (.int .i64 x0)), (1, (.int .i64 x1)), (3, (.int .u8 x3))] = some #[(.int .i64 x0), (.int .i64 x1), (.bool false), (.int .u8 x3)] := by kernel_rfl
theorem bt8_023 (x0 : Int) (x2 : Bool) (x3 : Int) : Try.prog.built 8 [(0, (.int .i64 x0)), (2, (.bool x2)), (3, (.int .u8 x3))] = some #[(.int .i64 x0), (.int .i64 0), (.bool x2), (.int .u8 x3)] := by kernel_rfl
theorem bt8_123 (x1 : Int) (x2 : Bool) (x3 : Int) : Try.prog.built 8 [(1, (.int .i64 x1)), (2, (.bool x2)), (3, (.int .u8 x3))] = some #[(.int .i64 0), (.int .i64 x1), (.bool x2), (.int .u8 x3)] := by kernel_rfl
theorem bt8_0123 (x0 : Int) (x1 : Int) (x2 : Bool) (x3 : Int) : Try.prog.built 8 [(0, (.int .i64 x0)), (1, (.int .i64 x1)), (2, (.bool x2)), (3, (.int .u8 x3))] = some #[(.int .i64 x0), (.int .i64 x1), (.bool x2), (.int .u8 x3)] := by kernel_rfl
theorem bt13_  : Try.prog.built 13 [] = some #[(.string ⟨#[]⟩), (.int .u64 0)] := by kernel_rfl
theorem bt13_0 (x0 : ByteArray) : Try.prog.built 13 [(0, (.string x0))] = some #[(.string x0), (.int .u64 0)] := by kernel_rfl
theorem bt13_1 (x1 : Int) : Try.prog.built 13 [(1, (.int .u64 x1))] = some #[(.string ⟨#[]⟩), (.int .u64 x1)] := by kernel_rfl
theorem bt13_01 (x0 : ByteArray) (x1 : Int) : Try.prog.built 13 [(0, (.string x0)), (1, (.int .u64 x1))] = some #[(.string x0), (.int .u64 x1)] := by kernel_rfl
theorem bt14_  : Try.prog.built 14 [] = some #[(.string ⟨#[]⟩), (.int .u64 0)] := by kernel_rfl
theorem bt14_0 (x0 : ByteArray) : Try.prog.built 14 [(0, (.string x0))] = some #[(.string x0), (.int .u64 0)] := by kernel_rfl
theorem bt14_1 (x1 : Int) : Try.prog.built 14 [(1, (.int .u64 x1))] = some #[(.string ⟨#[]⟩), (.int .u64 x1)] := by kernel_rfl
theorem bt14_01 (x0 : ByteArray) (x1 : Int) : Try.prog.built 14 [(0, (.string x0)), (1, (.int .u64 x1))] = some #[(.string x0), (.int .u64 x1)] := by kernel_rfl
theorem bt18_  : Try.prog.built 18 [] = some #[(.pointer none)] := by kernel_rfl
theorem bt18_0 (x0 : Option Addr) : Try.prog.built 18 [(0, (.pointer x0))] = some #[(.pointer x0)] := by kernel_rfl
theorem bt19_  : Try.prog.built 19 [] = some #[(.pointer none)] := by kernel_rfl
theorem bt19_0 (x0 : Option Addr) : Try.prog.built 19 [(0, (.pointer x0))] = some #[(.pointer x0)] := by kernel_rfl
theorem bs92_0  : builtSl Try.prog 92 0 [] = some #[] := by kernel_rfl
theorem bs92_1 (v0_0 v0_1 v0_2 : Value) : builtSl Try.prog 92 1 [(0, (.agg #[v0_0, v0_1, v0_2]))] = some #[v0_0, v0_1, v0_2] := by kernel_rfl
theorem bs92_2 (v0_0 v0_1 v0_2 : Value) (v1_0 v1_1 v1_2 : Value) : builtSl Try.prog 92 2 [(0, (.agg #[v0_0, v0_1, v0_2])), (1, (.agg #[v1_0, v1_1, v1_2]))] = some #[v0_0, v0_1, v0_2, v1_0, v1_1, v1_2] := by kernel_rfl
theorem bs92_3 (v0_0 v0_1 v0_2 : Value) (v1_0 v1_1 v1_2 : Value) (v2_0 v2_1 v2_2 : Value) : builtSl Try.prog 92 3 [(0, (.agg #[v0_0, v0_1, v0_2])), (1, (.agg #[v1_0, v1_1, v1_2])), (2, (.agg #[v2_0, v2_1, v2_2]))] = some #[v0_0, v0_1, v0_2, v1_0, v1_1, v1_2, v2_0, v2_1, v2_2] := by kernel_rfl
theorem bs92_4 (v0_0 v0_1 v0_2 : Value) (v1_0 v1_1 v1_2 : Value) (v2_0 v2_1 v2_2 : Value) (v3_0 v3_1 v3_2 : Value) : builtSl Try.prog 92 4 [(0, (.agg #[v0_0, v0_1, v0_2])), (1, (.agg #[v1_0, v1_1, v1_2])), (2, (.agg #[v2_0, v2_1, v2_2])), (3, (.agg #[v3_0, v3_1, v3_2]))] = some #[v0_0, v0_1, v0_2, v1_0, v1_1, v1_2, v2_0, v2_1, v2_2, v3_0, v3_1, v3_2] := by kernel_rfl
theorem bs92_5 (v0_0 v0_1 v0_2 : Value) (v1_0 v1_1 v1_2 : Value) (v2_0 v2_1 v2_2 : Value) (v3_0 v3_1 v3_2 : Value) (v4_0 v4_1 v4_2 : Value) : builtSl Try.prog 92 5 [(0, (.agg #[v0_0, v0_1, v0_2])), (1, (.agg #[v1_0, v1_1, v1_2])), (2, (.agg #[v2_0, v2_1, v2_2])), (3, (.agg #[v3_0, v3_1, v3_2])), (4, (.agg #[v4_0, v4_1, v4_2]))] = some #[v0_0, v0_1, v0_2, v1_0, v1_1, v1_2, v2_0, v2_1, v2_2, v3_0, v3_1, v3_2, v4_0, v4_1, v4_2] := by kernel_rfl
theorem bs92_6 (v0_0 v0_1 v0_2 : Value) (v1_0 v1_1 v1_2 : Value) (v2_0 v2_1 v2_2 : Value) (v3_0 v3_1 v3_2 : Value) (v4_0 v4_1 v4_2 : Value) (v5_0 v5_1 v5_2 : Value) : builtSl Try.prog 92 6 [(0, (.agg #[v0_0, v0_1, v0_2])), (1, (.agg #[v1_0, v1_1, v1_2])), (2, (.agg #[v2_0, v2_1, v2_2])), (3, (.agg #[v3_0, v3_1, v3_2])), (4, (.agg #[v4_0, v4_1, v4_2])), (5, (.agg #[v5_0, v5_1, v5_2]))] = some #[v0_0, v0_1, v0_2, v1_0, v1_1, v1_2, v2_0, v2_1, v2_2, v3_0, v3_1, v3_2, v4_0, v4_1, v4_2, v5_0, v5_1, v5_2] := by kernel_rfl
theorem bt23_  : Try.prog.built 23 [] = some #[(.int .i64 0), (.slice none 0 0), (.slice none 0 0)] := by kernel_rfl
theorem bt23_0 (x0 : Int) : Try.prog.built 23 [(0, (.int .i64 x0))] = some #[(.int .i64 x0), (.slice none 0 0), (.slice none 0 0)] := by kernel_rfl
theorem bt23_1 (a1 : Option Addr) (n1 c1 : Nat) : Try.prog.built 23 [(1, (.slice a1 n1 c1))] = some #[(.int .i64 0), (.slice a1 n1 c1), (.slice none 0 0)] := by kernel_rfl
theorem bt23_2 (a2 : Option Addr) (n2 c2 : Nat) : Try.prog.built 23 [(2, (.slice a2 n2 c2))] = some #[(.int .i64 0), (.slice none 0 0), (.slice a2 n2 c2)] := by kernel_rfl
theorem bt23_01 (x0 : Int) (a1 : Option Addr) (n1 c1 : Nat) : Try.prog.built 23 [(0, (.int .i64 x0)), (1, (.slice a1 n1 c1))] = some #[(.int .i64 x0), (.slice a1 n1 c1), (.slice none 0 0)] := by kernel_rfl
theorem bt23_02 (x0 : Int) (a2 : Option Addr) (n2 c2 : Nat) : Try.prog.built 23 [(0, (.int .i64 x0)), (2, (.slice a2 n2 c2))] = some #[(.int .i64 x0), (.slice none 0 0), (.slice a2 n2 c2)] := by kernel_rfl
theorem bt23_12 (a1 : Option Addr) (n1 c1 : Nat) (a2 : Option Addr) (n2 c2 : Nat) : Try.prog.built 23 [(1, (.slice a1 n1 c1)), (2, (.slice a2 n2 c2))] = some #[(.int .i64 0), (.slice a1 n1 c1), (.slice a2 n2 c2)] := by kernel_rfl
theorem bt23_012 (x0 : Int) (a1 : Option Addr) (n1 c1 : Nat) (a2 : Option Addr) (n2 c2 : Nat) : Try.prog.built 23 [(0, (.int .i64 x0)), (1, (.slice a1 n1 c1)), (2, (.slice a2 n2 c2))] = some #[(.int .i64 x0), (.slice a1 n1 c1), (.slice a2 n2 c2)] := by kernel_rfl
theorem bt24_  : Try.prog.built 24 [] = some #[(.int .i64 0), (.slice none 0 0), (.slice none 0 0)] := by kernel_rfl
theorem bt24_0 (x0 : Int) : Try.prog.built 24 [(0, (.int .i64 x0))] = some #[(.int .i64 x0), (.slice none 0 0), (.slice none 0 0)] := by kernel_rfl
theorem bt24_1 (a1 : Option Addr) (n1 c1 : Nat) : Try.prog.built 24 [(1, (.slice a1 n1 c1))] = some #[(.int .i64 0), (.slice a1 n1 c1), (.slice none 0 0)] := by kernel_rfl
theorem bt24_2 (a2 : Option Addr) (n2 c2 : Nat) : Try.prog.built 24 [(2, (.slice a2 n2 c2))] = some #[(.int .i64 0), (.slice none 0 0), (.slice a2 n2 c2)] := by kernel_rfl
theorem bt24_01 (x0 : Int) (a1 : Option Addr) (n1 c1 : Nat) : Try.prog.built 24 [(0, (.int .i64 x0)), (1, (.slice a1 n1 c1))] = some #[(.int .i64 x0), (.slice a1 n1 c1), (.slice none 0 0)] := by kernel_rfl
theorem bt24_02 (x0 : Int) (a2 : Option Addr) (n2 c2 : Nat) : Try.prog.built 24 [(0, (.int .i64 x0)), (2, (.slice a2 n2 c2))] = some #[(.int .i64 x0), (.slice none 0 0), (.slice a2 n2 c2)] := by kernel_rfl
theorem bt24_12 (a1 : Option Addr) (n1 c1 : Nat) (a2 : Option Addr) (n2 c2 : Nat) : Try.prog.built 24 [(1, (.slice a1 n1 c1)), (2, (.slice a2 n2 c2))] = some #[(.int .i64 0), (.slice a1 n1 c1), (.slice a2 n2 c2)] := by kernel_rfl
theorem bt24_012 (x0 : Int) (a1 : Option Addr) (n1 c1 : Nat) (a2 : Option Addr) (n2 c2 : Nat) : Try.prog.built 24 [(0, (.int .i64 x0)), (1, (.slice a1 n1 c1)), (2, (.slice a2 n2 c2))] = some #[(.int .i64 x0), (.slice a1 n1 c1), (.slice a2 n2 c2)] := by kernel_rfl
theorem bs93_0  : builtSl Try.prog 93 0 [] = some #[] := by kernel_rfl
theorem bs93_1 (v0_0 v0_1 v0_2 : Value) : builtSl Try.prog 93 1 [(0, (.agg #[v0_0, v0_1, v0_2]))] = some #[v0_0, v0_1, v0_2] := by kernel_rfl
theorem bs93_2 (v0_0 v0_1 v0_2 : Value) (v1_0 v1_1 v1_2 : Value) : builtSl Try.prog 93 2 [(0, (.agg #[v0_0, v0_1, v0_2])), (1, (.agg #[v1_0, v1_1, v1_2]))] = some #[v0_0, v0_1, v0_2, v1_0, v1_1, v1_2] := by kernel_rfl
theorem bs93_3 (v0_0 v0_1 v0_2 : Value) (v1_0 v1_1 v1_2 : Value) (v2_0 v2_1 v2_2 : Value) : builtSl Try.prog 93 3 [(0, (.agg #[v0_0, v0_1, v0_2])), (1, (.agg #[v1_0, v1_1, v1_2])), (2, (.agg #[v2_0, v2_1, v2_2]))] = some #[v0_0, v0_1, v0_2, v1_0, v1_1, v1_2, v2_0, v2_1, v2_2] := by kernel_rfl
theorem bs93_4 (v0_0 v0_1 v0_2 : Value) (v1_0 v1_1 v1_2 : Value) (v2_0 v2_1 v2_2 : Value) (v3_0 v3_1 v3_2 : Value) : builtSl Try.prog 93 4 [(0, (.agg #[v0_0, v0_1, v0_2])), (1, (.agg #[v1_0, v1_1, v1_2])), (2, (.agg #[v2_0, v2_1, v2_2])), (3, (.agg #[v3_0, v3_1, v3_2]))] = some #[v0_0, v0_1, v0_2, v1_0, v1_1, v1_2, v2_0, v2_1, v2_2, v3_0, v3_1, v3_2] := by kernel_rfl
theorem bs93_5 (v0_0 v0_1 v0_2 : Value) (v1_0 v1_1 v1_2 : Value) (v2_0 v2_1 v2_2 : Value) (v3_0 v3_1 v3_2 : Value) (v4_0 v4_1 v4_2 : Value) : builtSl Try.prog 93 5 [(0, (.agg #[v0_0, v0_1, v0_2])), (1, (.agg #[v1_0, v1_1, v1_2])), (2, (.agg #[v2_0, v2_1, v2_2])), (3, (.agg #[v3_0, v3_1, v3_2])), (4, (.agg #[v4_0, v4_1, v4_2]))] = some #[v0_0, v0_1, v0_2, v1_0, v1_1, v1_2, v2_0, v2_1, v2_2, v3_0, v3_1, v3_2, v4_0, v4_1, v4_2] := by kernel_rfl
theorem bs93_6 (v0_0 v0_1 v0_2 : Value) (v1_0 v1_1 v1_2 : Value) (v2_0 v2_1 v2_2 : Value) (v3_0 v3_1 v3_2 : Value) (v4_0 v4_1 v4_2 : Value) (v5_0 v5_1 v5_2 : Value) : builtSl Try.prog 93 6 [(0, (.agg #[v0_0, v0_1, v0_2])), (1, (.agg #[v1_0, v1_1, v1_2])), (2, (.agg #[v2_0, v2_1, v2_2])), (3, (.agg #[v3_0, v3_1, v3_2])), (4, (.agg #[v4_0, v4_1, v4_2])), (5, (.agg #[v5_0, v5_1, v5_2]))] = some #[v0_0, v0_1, v0_2, v1_0, v1_1, v1_2, v2_0, v2_1, v2_2, v3_0, v3_1, v3_2, v4_0, v4_1, v4_2, v5_0, v5_1, v5_2] := by kernel_rfl
theorem bt29_  : Try.prog.built 29 [] = some #[(.int .i64 0), (.slice none 0 0), (.slice none 0 0)] := by kernel_rfl
theorem bt29_0 (x0 : Int) : Try.prog.built 29 [(0, (.int .i64 x0))] = some #[(.int .i64 x0), (.slice none 0 0), (.slice none 0 0)] := by kernel_rfl
theorem bt29_1 (a1 : Option Addr) (n1 c1 : Nat) : Try.prog.built 29 [(1, (.slice a1 n1 c1))] = some #[(.int .i64 0), (.slice a1 n1 c1), (.slice none 0 0)] := by kernel_rfl
theorem bt29_2 (a2 : Option Addr) (n2 c2 : Nat) : Try.prog.built 29 [(2, (.slice a2 n2 c2))] = some #[(.int .i64 0), (.slice none 0 0), (.slice a2 n2 c2)] := by kernel_rfl
theorem bt29_01 (x0 : Int) (a1 : Option Addr) (n1 c1 : Nat) : Try.prog.built 29 [(0, (.int .i64 x0)), (1, (.slice a1 n1 c1))] = some #[(.int .i64 x0), (.slice a1 n1 c1), (.slice none 0 0)] := by kernel_rfl
theorem bt29_02 (x0 : Int) (a2 : Option Addr) (n2 c2 : Nat) : Try.prog.built 29 [(0, (.int .i64 x0)), (2, (.slice a2 n2 c2))] = some #[(.int .i64 x0), (.slice none 0 0), (.slice a2 n2 c2)] := by kernel_rfl
theorem bt29_12 (a1 : Option Addr) (n1 c1 : Nat) (a2 : Option Addr) (n2 c2 : Nat) : Try.prog.built 29 [(1, (.slice a1 n1 c1)), (2, (.slice a2 n2 c2))] = some #[(.int .i64 0), (.slice a1 n1 c1), (.slice a2 n2 c2)] := by kernel_rfl
theorem bt29_012 (x0 : Int) (a1 : Option Addr) (n1 c1 : Nat) (a2 : Option Addr) (n2 c2 : Nat) : Try.prog.built 29 [(0, (.int .i64 x0)), (1, (.slice a1 n1 c1)), (2, (.slice a2 n2 c2))] = some #[(.int .i64 x0), (.slice a1 n1 c1), (.slice a2 n2 c2)] := by kernel_rfl
theorem bt30_  : Try.prog.built 30 [] = some #[(.int .i64 0), (.slice none 0 0), (.slice none 0 0)] := by kernel_rfl
theorem bt30_0 (x0 : Int) : Try.prog.built 30 [(0, (.int .i64 x0))] = some #[(.int .i64 x0), (.slice none 0 0), (.slice none 0 0)] := by kernel_rfl
theorem bt30_1 (a1 : Option Addr) (n1 c1 : Nat) : Try.prog.built 30 [(1, (.slice a1 n1 c1))] = some #[(.int .i64 0), (.slice a1 n1 c1), (.slice none 0 0)] := by kernel_rfl
theorem bt30_2 (a2 : Option Addr) (n2 c2 : Nat) : Try.prog.built 30 [(2, (.slice a2 n2 c2))] = some #[(.int .i64 0), (.slice none 0 0), (.slice a2 n2 c2)] := by kernel_rfl
theorem bt30_01 (x0 : Int) (a1 : Option Addr) (n1 c1 : Nat) : Try.prog.built 30 [(0, (.int .i64 x0)), (1, (.slice a1 n1 c1))] = some #[(.int .i64 x0), (.slice a1 n1 c1), (.slice none 0 0)] := by kernel_rfl
theorem bt30_02 (x0 : Int) (a2 : Option Addr) (n2 c2 : Nat) : Try.prog.built 30 [(0, (.int .i64 x0)), (2, (.slice a2 n2 c2))] = some #[(.int .i64 x0), (.slice none 0 0), (.slice a2 n2 c2)] := by kernel_rfl
theorem bt30_12 (a1 : Option Addr) (n1 c1 : Nat) (a2 : Option Addr) (n2 c2 : Nat) : Try.prog.built 30 [(1, (.slice a1 n1 c1)), (2, (.slice a2 n2 c2))] = some #[(.int .i64 0), (.slice a1 n1 c1), (.slice a2 n2 c2)] := by kernel_rfl
theorem bt30_012 (x0 : Int) (a1 : Option Addr) (n1 c1 : Nat) (a2 : Option Addr) (n2 c2 : Nat) : Try.prog.built 30 [(0, (.int .i64 x0)), (1, (.slice a1 n1 c1)), (2, (.slice a2 n2 c2))] = some #[(.int .i64 x0), (.slice a1 n1 c1), (.slice a2 n2 c2)] := by kernel_rfl
theorem bt34_  : Try.prog.built 34 [] = some #[(.int .i64 0), (.slice none 0 0)] := by kernel_rfl
theorem bt34_0 (x0 : Int) : Try.prog.built 34 [(0, (.int .i64 x0))] = some #[(.int .i64 x0), (.slice none 0 0)] := by kernel_rfl
theorem bt34_1 (a1 : Option Addr) (n1 c1 : Nat) : Try.prog.built 34 [(1, (.slice a1 n1 c1))] = some #[(.int .i64 0), (.slice a1 n1 c1)] := by kernel_rfl
theorem bt34_01 (x0 : Int) (a1 : Option Addr) (n1 c1 : Nat) : Try.prog.built 34 [(0, (.int .i64 x0)), (1, (.slice a1 n1 c1))] = some #[(.int .i64 x0), (.slice a1 n1 c1)] := by kernel_rfl
theorem bt35_  : Try.prog.built 35 [] = some #[(.int .i64 0), (.slice none 0 0)] := by kernel_rfl
theorem bt35_0 (x0 : Int) : Try.prog.built 35 [(0, (.int .i64 x0))] = some #[(.int .i64 x0), (.slice none 0 0)] := by kernel_rfl
theorem bt35_1 (a1 : Option Addr) (n1 c1 : Nat) : Try.prog.built 35 [(1, (.slice a1 n1 c1))] = some #[(.int .i64 0), (.slice a1 n1 c1)] := by kernel_rfl
theorem bt35_01 (x0 : Int) (a1 : Option Addr) (n1 c1 : Nat) : Try.prog.built 35 [(0, (.int .i64 x0)), (1, (.slice a1 n1 c1))] = some #[(.int .i64 x0), (.slice a1 n1 c1)] := by kernel_rfl
theorem bt37_  : Try.prog.built 37 [] = some #[(.int .i64 0), (.slice none 0 0)] := by kernel_rfl
theorem bt37_0 (x0 : Int) : Try.prog.built 37 [(0, (.int .i64 x0))] = some #[(.int .i64 x0), (.slice none 0 0)] := by kernel_rfl
theorem bt37_1 (a1 : Option Addr) (n1 c1 : Nat) : Try.prog.built 37 [(1, (.slice a1 n1 c1))] = some #[(.int .i64 0), (.slice a1 n1 c1)] := by kernel_rfl
theorem bt37_01 (x0 : Int) (a1 : Option Addr) (n1 c1 : Nat) : Try.prog.built 37 [(0, (.int .i64 x0)), (1, (.slice a1 n1 c1))] = some #[(.int .i64 x0), (.slice a1 n1 c1)] := by kernel_rfl
theorem bt38_  : Try.prog.built 38 [] = some #[(.int .i64 0), (.slice none 0 0)] := by kernel_rfl
theorem bt38_0 (x0 : Int) : Try.prog.built 38 [(0, (.int .i64 x0))] = some #[(.int .i64 x0), (.slice none 0 0)] := by kernel_rfl
theorem bt38_1 (a1 : Option Addr) (n1 c1 : Nat) : Try.prog.built 38 [(1, (.slice a1 n1 c1))] = some #[(.int .i64 0), (.slice a1 n1 c1)] := by kernel_rfl
theorem bt38_01 (x0 : Int) (a1 : Option Addr) (n1 c1 : Nat) : Try.prog.built 38 [(0, (.int .i64 x0)), (1, (.slice a1 n1 c1))] = some #[(.int .i64 x0), (.slice a1 n1 c1)] := by kernel_rfl
theorem bs30_0  : builtSl Try.prog 30 0 [] = some #[] := by kernel_rfl
theorem bs30_1 (v0_0 v0_1 v0_2 : Value) : builtSl Try.prog 30 1 [(0, (.agg #[v0_0, v0_1, v0_2]))] = some #[v0_0, v0_1, v0_2] := by kernel_rfl
theorem bs30_2 (v0_0 v0_1 v0_2 : Value) (v1_0 v1_1 v1_2 : Value) : builtSl Try.prog 30 2 [(0, (.agg #[v0_0, v0_1, v0_2])), (1, (.agg #[v1_0, v1_1, v1_2]))] = some #[v0_0, v0_1, v0_2, v1_0, v1_1, v1_2] := by kernel_rfl
theorem bs30_3 (v0_0 v0_1 v0_2 : Value) (v1_0 v1_1 v1_2 : Value) (v2_0 v2_1 v2_2 : Value) : builtSl Try.prog 30 3 [(0, (.agg #[v0_0, v0_1, v0_2])), (1, (.agg #[v1_0, v1_1, v1_2])), (2, (.agg #[v2_0, v2_1, v2_2]))] = some #[v0_0, v0_1, v0_2, v1_0, v1_1, v1_2, v2_0, v2_1, v2_2] := by kernel_rfl
theorem bs30_4 (v0_0 v0_1 v0_2 : Value) (v1_0 v1_1 v1_2 : Value) (v2_0 v2_1 v2_2 : Value) (v3_0 v3_1 v3_2 : Value) : builtSl Try.prog 30 4 [(0, (.agg #[v0_0, v0_1, v0_2])), (1, (.agg #[v1_0, v1_1, v1_2])), (2, (.agg #[v2_0, v2_1, v2_2])), (3, (.agg #[v3_0, v3_1, v3_2]))] = some #[v0_0, v0_1, v0_2, v1_0, v1_1, v1_2, v2_0, v2_1, v2_2, v3_0, v3_1, v3_2] := by kernel_rfl
theorem bs30_5 (v0_0 v0_1 v0_2 : Value) (v1_0 v1_1 v1_2 : Value) (v2_0 v2_1 v2_2 : Value) (v3_0 v3_1 v3_2 : Value) (v4_0 v4_1 v4_2 : Value) : builtSl Try.prog 30 5 [(0, (.agg #[v0_0, v0_1, v0_2])), (1, (.agg #[v1_0, v1_1, v1_2])), (2, (.agg #[v2_0, v2_1, v2_2])), (3, (.agg #[v3_0, v3_1, v3_2])), (4, (.agg #[v4_0, v4_1, v4_2]))] = some #[v0_0, v0_1, v0_2, v1_0, v1_1, v1_2, v2_0, v2_1, v2_2, v3_0, v3_1, v3_2, v4_0, v4_1, v4_2] := by kernel_rfl
theorem bs30_6 (v0_0 v0_1 v0_2 : Value) (v1_0 v1_1 v1_2 : Value) (v2_0 v2_1 v2_2 : Value) (v3_0 v3_1 v3_2 : Value) (v4_0 v4_1 v4_2 : Value) (v5_0 v5_1 v5_2 : Value) : builtSl Try.prog 30 6 [(0, (.agg #[v0_0, v0_1, v0_2])), (1, (.agg #[v1_0, v1_1, v1_2])), (2, (.agg #[v2_0, v2_1, v2_2])), (3, (.agg #[v3_0, v3_1, v3_2])), (4, (.agg #[v4_0, v4_1, v4_2])), (5, (.agg #[v5_0, v5_1, v5_2]))] = some #[v0_0, v0_1, v0_2, v1_0, v1_1, v1_2, v2_0, v2_1, v2_2, v3_0, v3_1, v3_2, v4_0, v4_1, v4_2, v5_0, v5_1, v5_2] := by kernel_rfl
theorem bs56_0  : builtSl Try.prog 56 0 [] = some #[] := by kernel_rfl
theorem bs56_1 (a0 : Option Addr) (n0 c0 : Nat) : builtSl Try.prog 56 1 [(0, (.slice a0 n0 c0))] = some #[(.slice a0 n0 c0)] := by kernel_rfl
theorem bs56_2 (a0 : Option Addr) (n0 c0 : Nat) (a1 : Option Addr) (n1 c1 : Nat) : builtSl Try.prog 56 2 [(0, (.slice a0 n0 c0)), (1, (.slice a1 n1 c1))] = some #[(.slice a0 n0 c0), (.slice a1 n1 c1)] := by kernel_rfl
theorem bs56_3 (a0 : Option Addr) (n0 c0 : Nat) (a1 : Option Addr) (n1 c1 : Nat) (a2 : Option Addr) (n2 c2 : Nat) : builtSl Try.prog 56 3 [(0, (.slice a0 n0 c0)), (1, (.slice a1 n1 c1)), (2, (.slice a2 n2 c2))] = some #[(.slice a0 n0 c0), (.slice a1 n1 c1), (.slice a2 n2 c2)] := by kernel_rfl
theorem bs56_4 (a0 : Option Addr) (n0 c0 : Nat) (a1 : Option Addr) (n1 c1 : Nat) (a2 : Option Addr) (n2 c2 : Nat) (a3 : Option Addr) (n3 c3 : Nat) : builtSl Try.prog 56 4 [(0, (.slice a0 n0 c0)), (1, (.slice a1 n1 c1)), (2, (.slice a2 n2 c2)), (3, (.slice a3 n3 c3))] = some #[(.slice a0 n0 c0), (.slice a1 n1 c1), (.slice a2 n2 c2), (.slice a3 n3 c3)] := by kernel_rfl
theorem bs56_5 (a0 : Option Addr) (n0 c0 : Nat) (a1 : Option Addr) (n1 c1 : Nat) (a2 : Option Addr) (n2 c2 : Nat) (a3 : Option Addr) (n3 c3 : Nat) (a4 : Option Addr) (n4 c4 : Nat) : builtSl Try.prog 56 5 [(0, (.slice a0 n0 c0)), (1, (.slice a1 n1 c1)), (2, (.slice a2 n2 c2)), (3, (.slice a3 n3 c3)), (4, (.slice a4 n4 c4))] = some #[(.slice a0 n0 c0), (.slice a1 n1 c1), (.slice a2 n2 c2), (.slice a3 n3 c3), (.slice a4 n4 c4)] := by kernel_rfl
theorem bs56_6 (a0 : Option Addr) (n0 c0 : Nat) (a1 : Option Addr) (n1 c1 : Nat) (a2 : Option Addr) (n2 c2 : Nat) (a3 : Option Addr) (n3 c3 : Nat) (a4 : Option Addr) (n4 c4 : Nat) (a5 : Option Addr) (n5 c5 : Nat) : builtSl Try.prog 56 6 [(0, (.slice a0 n0 c0)), (1, (.slice a1 n1 c1)), (2, (.slice a2 n2 c2)), (3, (.slice a3 n3 c3)), (4, (.slice a4 n4 c4)), (5, (.slice a5 n5 c5))] = some #[(.slice a0 n0 c0), (.slice a1 n1 c1), (.slice a2 n2 c2), (.slice a3 n3 c3), (.slice a4 n4 c4), (.slice a5 n5 c5)] := by kernel_rfl
theorem bs2_0  : builtSl Try.prog 2 0 [] = some #[] := by kernel_rfl
theorem bs2_1 (x0 : Int) : builtSl Try.prog 2 1 [(0, (.int .i64 x0))] = some #[(.int .i64 x0)] := by kernel_rfl
theorem bs2_2 (x0 : Int) (x1 : Int) : builtSl Try.prog 2 2 [(0, (.int .i64 x0)), (1, (.int .i64 x1))] = some #[(.int .i64 x0), (.int .i64 x1)] := by kernel_rfl
theorem bs2_3 (x0 : Int) (x1 : Int) (x2 : Int) : builtSl Try.prog 2 3 [(0, (.int .i64 x0)), (1, (.int .i64 x1)), (2, (.int .i64 x2))] = some #[(.int .i64 x0), (.int .i64 x1), (.int .i64 x2)] := by kernel_rfl
theorem bs2_4 (x0 : Int) (x1 : Int) (x2 : Int) (x3 : Int) : builtSl Try.prog 2 4 [(0, (.int .i64 x0)), (1, (.int .i64 x1)), (2, (.int .i64 x2)), (3, (.int .i64 x3))] = some #[(.int .i64 x0), (.int .i64 x1), (.int .i64 x2), (.int .i64 x3)] := by kernel_rfl
theorem bs2_5 (x0 : Int) (x1 : Int) (x2 : Int) (x3 : Int) (x4 : Int) : builtSl Try.prog 2 5 [(0, (.int .i64 x0)), (1, (.int .i64 x1)), (2, (.int .i64 x2)), (3, (.int .i64 x3)), (4, (.int .i64 x4))] = some #[(.int .i64 x0), (.int .i64 x1), (.int .i64 x2), (.int .i64 x3), (.int .i64 x4)] := by kernel_rfl
theorem bs2_6 (x0 : Int) (x1 : Int) (x2 : Int) (x3 : Int) (x4 : Int) (x5 : Int) : builtSl Try.prog 2 6 [(0, (.int .i64 x0)), (1, (.int .i64 x1)), (2, (.int .i64 x2)), (3, (.int .i64 x3)), (4, (.int .i64 x4)), (5, (.int .i64 x5))] = some #[(.int .i64 x0), (.int .i64 x1), (.int .i64 x2), (.int .i64 x3), (.int .i64 x4), (.int .i64 x5)] := by kernel_rfl
theorem bs51_0  : builtSl Try.prog 51 0 [] = some #[] := by kernel_rfl
theorem bs51_1 (a0 : Option Addr) (n0 c0 : Nat) : builtSl Try.prog 51 1 [(0, (.slice a0 n0 c0))] = some #[(.slice a0 n0 c0)] := by kernel_rfl
theorem bs51_2 (a0 : Option Addr) (n0 c0 : Nat) (a1 : Option Addr) (n1 c1 : Nat) : builtSl Try.prog 51 2 [(0, (.slice a0 n0 c0)), (1, (.slice a1 n1 c1))] = some #[(.slice a0 n0 c0), (.slice a1 n1 c1)] := by kernel_rfl
theorem bs51_3 (a0 : Option Addr) (n0 c0 : Nat) (a1 : Option Addr) (n1 c1 : Nat) (a2 : Option Addr) (n2 c2 : Nat) : builtSl Try.prog 51 3 [(0, (.slice a0 n0 c0)), (1, (.slice a1 n1 c1)), (2, (.slice a2 n2 c2))] = some #[(.slice a0 n0 c0), (.slice a1 n1 c1), (.slice a2 n2 c2)] := by kernel_rfl
theorem bs51_4 (a0 : Option Addr) (n0 c0 : Nat) (a1 : Option Addr) (n1 c1 : Nat) (a2 : Option Addr) (n2 c2 : Nat) (a3 : Option Addr) (n3 c3 : Nat) : builtSl Try.prog 51 4 [(0, (.slice a0 n0 c0)), (1, (.slice a1 n1 c1)), (2, (.slice a2 n2 c2)), (3, (.slice a3 n3 c3))] = some #[(.slice a0 n0 c0), (.slice a1 n1 c1), (.slice a2 n2 c2), (.slice a3 n3 c3)] := by kernel_rfl
theorem bs51_5 (a0 : Option Addr) (n0 c0 : Nat) (a1 : Option Addr) (n1 c1 : Nat) (a2 : Option Addr) (n2 c2 : Nat) (a3 : Option Addr) (n3 c3 : Nat) (a4 : Option Addr) (n4 c4 : Nat) : builtSl Try.prog 51 5 [(0, (.slice a0 n0 c0)), (1, (.slice a1 n1 c1)), (2, (.slice a2 n2 c2)), (3, (.slice a3 n3 c3)), (4, (.slice a4 n4 c4))] = some #[(.slice a0 n0 c0), (.slice a1 n1 c1), (.slice a2 n2 c2), (.slice a3 n3 c3), (.slice a4 n4 c4)] := by kernel_rfl
theorem bs51_6 (a0 : Option Addr) (n0 c0 : Nat) (a1 : Option Addr) (n1 c1 : Nat) (a2 : Option Addr) (n2 c2 : Nat) (a3 : Option Addr) (n3 c3 : Nat) (a4 : Option Addr) (n4 c4 : Nat) (a5 : Option Addr) (n5 c5 : Nat) : builtSl Try.prog 51 6 [(0, (.slice a0 n0 c0)), (1, (.slice a1 n1 c1)), (2, (.slice a2 n2 c2)), (3, (.slice a3 n3 c3)), (4, (.slice a4 n4 c4)), (5, (.slice a5 n5 c5))] = some #[(.slice a0 n0 c0), (.slice a1 n1 c1), (.slice a2 n2 c2), (.slice a3 n3 c3), (.slice a4 n4 c4), (.slice a5 n5 c5)] := by kernel_rfl
theorem bt92_  : Try.prog.built 92 [] = some #[(.int .i64 0), (.int .i64 0), (.int .i64 0)] := by kernel_rfl
theorem bt92_0 (x0 : Int) : Try.prog.built 92 [(0, (.int .i64 x0))] = some #[(.int .i64 x0), (.int .i64 0), (.int .i64 0)] := by kernel_rfl
theorem bt92_1 (x1 : Int) : Try.prog.built 92 [(1, (.int .i64 x1))] = some #[(.int .i64 0), (.int .i64 x1), (.int .i64 0)] := by kernel_rfl
theorem bt92_2 (x2 : Int) : Try.prog.built 92 [(2, (.int .i64 x2))] = some #[(.int .i64 0), (.int .i64 0), (.int .i64 x2)] := by kernel_rfl
theorem bt92_01 (x0 : Int) (x1 : Int) : Try.prog.built 92 [(0, (.int .i64 x0)), (1, (.int .i64 x1))] = some #[(.int .i64 x0), (.int .i64 x1), (.int .i64 0)] := by kernel_rfl
theorem bt92_02 (x0 : Int) (x2 : Int) : Try.prog.built 92 [(0, (.int .i64 x0)), (2, (.int .i64 x2))] = some #[(.int .i64 x0), (.int .i64 0), (.int .i64 x2)] := by kernel_rfl
theorem bt92_12 (x1 : Int) (x2 : Int) : Try.prog.built 92 [(1, (.int .i64 x1)), (2, (.int .i64 x2))] = some #[(.int .i64 0), (.int .i64 x1), (.int .i64 x2)] := by kernel_rfl
theorem bt92_012 (x0 : Int) (x1 : Int) (x2 : Int) : Try.prog.built 92 [(0, (.int .i64 x0)), (1, (.int .i64 x1)), (2, (.int .i64 x2))] = some #[(.int .i64 x0), (.int .i64 x1), (.int .i64 x2)] := by kernel_rfl
theorem bt93_  : Try.prog.built 93 [] = some #[(.int .i64 0), (.int .i64 0), (.int .i64 0)] := by kernel_rfl
theorem bt93_0 (x0 : Int) : Try.prog.built 93 [(0, (.int .i64 x0))] = some #[(.int .i64 x0), (.int .i64 0), (.int .i64 0)] := by kernel_rfl
theorem bt93_1 (x1 : Int) : Try.prog.built 93 [(1, (.int .i64 x1))] = some #[(.int .i64 0), (.int .i64 x1), (.int .i64 0)] := by kernel_rfl
theorem bt93_2 (x2 : Int) : Try.prog.built 93 [(2, (.int .i64 x2))] = some #[(.int .i64 0), (.int .i64 0), (.int .i64 x2)] := by kernel_rfl
theorem bt93_01 (x0 : Int) (x1 : Int) : Try.prog.built 93 [(0, (.int .i64 x0)), (1, (.int .i64 x1))] = some #[(.int .i64 x0), (.int .i64 x1), (.int .i64 0)] := by kernel_rfl
theorem bt93_02 (x0 : Int) (x2 : Int) : Try.prog.built 93 [(0, (.int .i64 x0)), (2, (.int .i64 x2))] = some #[(.int .i64 x0), (.int .i64 0), (.int .i64 x2)] := by kernel_rfl
theorem bt93_12 (x1 : Int) (x2 : Int) : Try.prog.built 93 [(1, (.int .i64 x1)), (2, (.int .i64 x2))] = some #[(.int .i64 0), (.int .i64 x1), (.int .i64 x2)] := by kernel_rfl
theorem bt93_012 (x0 : Int) (x1 : Int) (x2 : Int) : Try.prog.built 93 [(0, (.int .i64 x0)), (1, (.int .i64 x1)), (2, (.int .i64 x2))] = some #[(.int .i64 x0), (.int .i64 x1), (.int .i64 x2)] := by kernel_rfl
theorem bs28_0  : builtSl Try.prog 28 0 [] = some #[] := by kernel_rfl
theorem bs28_1 (a0 : Option Addr) (n0 c0 : Nat) : builtSl Try.prog 28 1 [(0, (.slice a0 n0 c0))] = some #[(.slice a0 n0 c0)] := by kernel_rfl
theorem bs28_2 (a0 : Option Addr) (n0 c0 : Nat) (a1 : Option Addr) (n1 c1 : Nat) : builtSl Try.prog 28 2 [(0, (.slice a0 n0 c0)), (1, (.slice a1 n1 c1))] = some #[(.slice a0 n0 c0), (.slice a1 n1 c1)] := by kernel_rfl
theorem bs28_3 (a0 : Option Addr) (n0 c0 : Nat) (a1 : Option Addr) (n1 c1 : Nat) (a2 : Option Addr) (n2 c2 : Nat) : builtSl Try.prog 28 3 [(0, (.slice a0 n0 c0)), (1, (.slice a1 n1 c1)), (2, (.slice a2 n2 c2))] = some #[(.slice a0 n0 c0), (.slice a1 n1 c1), (.slice a2 n2 c2)] := by kernel_rfl
theorem bs28_4 (a0 : Option Addr) (n0 c0 : Nat) (a1 : Option Addr) (n1 c1 : Nat) (a2 : Option Addr) (n2 c2 : Nat) (a3 : Option Addr) (n3 c3 : Nat) : builtSl Try.prog 28 4 [(0, (.slice a0 n0 c0)), (1, (.slice a1 n1 c1)), (2, (.slice a2 n2 c2)), (3, (.slice a3 n3 c3))] = some #[(.slice a0 n0 c0), (.slice a1 n1 c1), (.slice a2 n2 c2), (.slice a3 n3 c3)] := by kernel_rfl
theorem bs28_5 (a0 : Option Addr) (n0 c0 : Nat) (a1 : Option Addr) (n1 c1 : Nat) (a2 : Option Addr) (n2 c2 : Nat) (a3 : Option Addr) (n3 c3 : Nat) (a4 : Option Addr) (n4 c4 : Nat) : builtSl Try.prog 28 5 [(0, (.slice a0 n0 c0)), (1, (.slice a1 n1 c1)), (2, (.slice a2 n2 c2)), (3, (.slice a3 n3 c3)), (4, (.slice a4 n4 c4))] = some #[(.slice a0 n0 c0), (.slice a1 n1 c1), (.slice a2 n2 c2), (.slice a3 n3 c3), (.slice a4 n4 c4)] := by kernel_rfl
theorem bs28_6 (a0 : Option Addr) (n0 c0 : Nat) (a1 : Option Addr) (n1 c1 : Nat) (a2 : Option Addr) (n2 c2 : Nat) (a3 : Option Addr) (n3 c3 : Nat) (a4 : Option Addr) (n4 c4 : Nat) (a5 : Option Addr) (n5 c5 : Nat) : builtSl Try.prog 28 6 [(0, (.slice a0 n0 c0)), (1, (.slice a1 n1 c1)), (2, (.slice a2 n2 c2)), (3, (.slice a3 n3 c3)), (4, (.slice a4 n4 c4)), (5, (.slice a5 n5 c5))] = some #[(.slice a0 n0 c0), (.slice a1 n1 c1), (.slice a2 n2 c2), (.slice a3 n3 c3), (.slice a4 n4 c4), (.slice a5 n5 c5)] := by kernel_rfl
theorem bs4_0  : builtSl Try.prog 4 0 [] = some #[] := by kernel_rfl
theorem bs4_1 (x0 : Bool) : builtSl Try.prog 4 1 [(0, (.bool x0))] = some #[(.bool x0)] := by kernel_rfl
theorem bs4_2 (x0 : Bool) (x1 : Bool) : builtSl Try.prog 4 2 [(0, (.bool x0)), (1, (.bool x1))] = some #[(.bool x0), (.bool x1)] := by kernel_rfl
theorem bs4_3 (x0 : Bool) (x1 : Bool) (x2 : Bool) : builtSl Try.prog 4 3 [(0, (.bool x0)), (1, (.bool x1)), (2, (.bool x2))] = some #[(.bool x0), (.bool x1), (.bool x2)] := by kernel_rfl
theorem bs4_4 (x0 : Bool) (x1 : Bool) (x2 : Bool) (x3 : Bool) : builtSl Try.prog 4 4 [(0, (.bool x0)), (1, (.bool x1)), (2, (.bool x2)), (3, (.bool x3))] = some #[(.bool x0), (.bool x1), (.bool x2), (.bool x3)] := by kernel_rfl
theorem bs4_5 (x0 : Bool) (x1 : Bool) (x2 : Bool) (x3 : Bool) (x4 : Bool) : builtSl Try.prog 4 5 [(0, (.bool x0)), (1, (.bool x1)), (2, (.bool x2)), (3, (.bool x3)), (4, (.bool x4))] = some #[(.bool x0), (.bool x1), (.bool x2), (.bool x3), (.bool x4)] := by kernel_rfl
theorem bs4_6 (x0 : Bool) (x1 : Bool) (x2 : Bool) (x3 : Bool) (x4 : Bool) (x5 : Bool) : builtSl Try.prog 4 6 [(0, (.bool x0)), (1, (.bool x1)), (2, (.bool x2)), (3, (.bool x3)), (4, (.bool x4)), (5, (.bool x5))] = some #[(.bool x0), (.bool x1), (.bool x2), (.bool x3), (.bool x4), (.bool x5)] := by kernel_rfl
theorem bs158_0  : builtSl Try.prog 158 0 [] = some #[] := by kernel_rfl
theorem bs158_1 (v0_0 v0_1 : Value) : builtSl Try.prog 158 1 [(0, (.agg #[v0_0, v0_1]))] = some #[v0_0, v0_1] := by kernel_rfl
theorem bs158_2 (v0_0 v0_1 : Value) (v1_0 v1_1 : Value) : builtSl Try.prog 158 2 [(0, (.agg #[v0_0, v0_1])), (1, (.agg #[v1_0, v1_1]))] = some #[v0_0, v0_1, v1_0, v1_1] := by kernel_rfl
theorem bs158_3 (v0_0 v0_1 : Value) (v1_0 v1_1 : Value) (v2_0 v2_1 : Value) : builtSl Try.prog 158 3 [(0, (.agg #[v0_0, v0_1])), (1, (.agg #[v1_0, v1_1])), (2, (.agg #[v2_0, v2_1]))] = some #[v0_0, v0_1, v1_0, v1_1, v2_0, v2_1] := by kernel_rfl
theorem bs158_4 (v0_0 v0_1 : Value) (v1_0 v1_1 : Value) (v2_0 v2_1 : Value) (v3_0 v3_1 : Value) : builtSl Try.prog 158 4 [(0, (.agg #[v0_0, v0_1])), (1, (.agg #[v1_0, v1_1])), (2, (.agg #[v2_0, v2_1])), (3, (.agg #[v3_0, v3_1]))] = some #[v0_0, v0_1, v1_0, v1_1, v2_0, v2_1, v3_0, v3_1] := by kernel_rfl
theorem bs158_5 (v0_0 v0_1 : Value) (v1_0 v1_1 : Value) (v2_0 v2_1 : Value) (v3_0 v3_1 : Value) (v4_0 v4_1 : Value) : builtSl Try.prog 158 5 [(0, (.agg #[v0_0, v0_1])), (1, (.agg #[v1_0, v1_1])), (2, (.agg #[v2_0, v2_1])), (3, (.agg #[v3_0, v3_1])), (4, (.agg #[v4_0, v4_1]))] = some #[v0_0, v0_1, v1_0, v1_1, v2_0, v2_1, v3_0, v3_1, v4_0, v4_1] := by kernel_rfl
theorem bs158_6 (v0_0 v0_1 : Value) (v1_0 v1_1 : Value) (v2_0 v2_1 : Value) (v3_0 v3_1 : Value) (v4_0 v4_1 : Value) (v5_0 v5_1 : Value) : builtSl Try.prog 158 6 [(0, (.agg #[v0_0, v0_1])), (1, (.agg #[v1_0, v1_1])), (2, (.agg #[v2_0, v2_1])), (3, (.agg #[v3_0, v3_1])), (4, (.agg #[v4_0, v4_1])), (5, (.agg #[v5_0, v5_1]))] = some #[v0_0, v0_1, v1_0, v1_1, v2_0, v2_1, v3_0, v3_1, v4_0, v4_1, v5_0, v5_1] := by kernel_rfl
theorem bt158_  : Try.prog.built 158 [] = some #[(.int .i64 0), (.int .i64 0)] := by kernel_rfl
theorem bt158_0 (x0 : Int) : Try.prog.built 158 [(0, (.int .i64 x0))] = some #[(.int .i64 x0), (.int .i64 0)] := by kernel_rfl
theorem bt158_1 (x1 : Int) : Try.prog.built 158 [(1, (.int .i64 x1))] = some #[(.int .i64 0), (.int .i64 x1)] := by kernel_rfl
theorem bt158_01 (x0 : Int) (x1 : Int) : Try.prog.built 158 [(0, (.int .i64 x0)), (1, (.int .i64 x1))] = some #[(.int .i64 x0), (.int .i64 x1)] := by kernel_rfl
theorem bt218_  : Try.prog.built 218 [] = some #[(.pointer none), (.pointer none), (.pointer none), (.string ⟨#[]⟩)] := by kernel_rfl
theorem bt218_0 (x0 : Option Addr) : Try.prog.built 218 [(0, (.pointer x0))] = some #[(.pointer x0), (.pointer none), (.pointer none), (.string ⟨#[]⟩)] := by kernel_rfl
theorem bt218_1 (x1 : Option Addr) : Try.prog.built 218 [(1, (.pointer x1))] = some #[(.pointer none), (.pointer x1), (.pointer none), (.string ⟨#[]⟩)] := by kernel_rfl
theorem bt218_2 (x2 : Option Addr) : Try.prog.built 218 [(2, (.pointer x2))] = some #[(.pointer none), (.pointer none), (.pointer x2), (.string ⟨#[]⟩)] := by kernel_rfl
theorem bt218_3 (x3 : ByteArray) : Try.prog.built 218 [(3, (.string x3))] = some #[(.pointer none), (.pointer none), (.pointer none), (.string x3)] := by kernel_rfl
theorem bt218_01 (x0 : Option Addr) (x1 : Option Addr) : Try.prog.built 218 [(0, (.pointer x0)), (1, (.pointer x1))] = some #[(.pointer x0), (.pointer x1), (.pointer none), (.string ⟨#[]⟩)] := by kernel_rfl
theorem bt218_02 (x0 : Option Addr) (x2 : Option Addr) : Try.prog.built 218 [(0, (.pointer x0)), (2, (.pointer x2))] = some #[(.pointer x0), (.pointer none), (.pointer x2), (.string ⟨#[]⟩)] := by kernel_rfl
theorem bt218_03 (x0 : Option Addr) (x3 : ByteArray) : Try.prog.built 218 [(0, (.pointer x0)), (3, (.string x3))] = some #[(.pointer x0), (.pointer none), (.pointer none), (.string x3)] := by kernel_rfl
theorem bt218_12 (x1 : Option Addr) (x2 : Option Addr) : Try.prog.built 218 [(1, (.pointer x1)), (2, (.pointer x2))] = some #[(.pointer none), (.pointer x1), (.pointer x2), (.string ⟨#[]⟩)] := by kernel_rfl
theorem bt218_13 (x1 : Option Addr) (x3 : ByteArray) : Try.prog.built 218 [(1, (.pointer x1)), (3, (.string x3))] = some #[(.pointer none), (.pointer x1), (.pointer none), (.string x3)] := by kernel_rfl
theorem bt218_23 (x2 : Option Addr) (x3 : ByteArray) : Try.prog.built 218 [(2, (.pointer x2)), (3, (.string x3))] = some #[(.pointer none), (.pointer none), (.pointer x2), (.string x3)] := by kernel_rfl
theorem bt218_012 (x0 : Option Addr) (x1 : Option Addr) (x2 : Option Addr) : Try.prog.built 218 [(0, (.pointer x0)), (1, (.pointer x1)), (2, (.pointer x2))] = some #[(.pointer x0), (.pointer x1), (.pointer x2), (.string ⟨#[]⟩)] := by kernel_rfl
theorem bt218_013 (x0 : Option Addr) (x1 : Option Addr) (x3 : ByteArray) : Try.prog.built 218 [(0, (.pointer x0)), (1, (.pointer x1)), (3, (.string x3))] = some #[(.pointer x0), (.pointer x1), (.pointer none), (.string x3)] := by kernel_rfl
theorem bt218_023 (x0 : Option Addr) (x2 : Option Addr) (x3 : ByteArray) : Try.prog.built 218 [(0, (.pointer x0)), (2, (.pointer x2)), (3, (.string x3))] = some #[(.pointer x0), (.pointer none), (.pointer x2), (.string x3)] := by kernel_rfl
theorem bt218_123 (x1 : Option Addr) (x2 : Option Addr) (x3 : ByteArray) : Try.prog.built 218 [(1, (.pointer x1)), (2, (.pointer x2)), (3, (.string x3))] = some #[(.pointer none), (.pointer x1), (.pointer x2), (.string x3)] := by kernel_rfl
theorem bt218_0123 (x0 : Option Addr) (x1 : Option Addr) (x2 : Option Addr) (x3 : ByteArray) : Try.prog.built 218 [(0, (.pointer x0)), (1, (.pointer x1)), (2, (.pointer x2)), (3, (.string x3))] = some #[(.pointer x0), (.pointer x1), (.pointer x2), (.string x3)] := by kernel_rfl
theorem bt219_  : Try.prog.built 219 [] = some #[(.pointer none), (.pointer none), (.pointer none), (.string ⟨#[]⟩)] := by kernel_rfl
theorem bt219_0 (x0 : Option Addr) : Try.prog.built 219 [(0, (.pointer x0))] = some #[(.pointer x0), (.pointer none), (.pointer none), (.string ⟨#[]⟩)] := by kernel_rfl
theorem bt219_1 (x1 : Option Addr) : Try.prog.built 219 [(1, (.pointer x1))] = some #[(.pointer none), (.pointer x1), (.pointer none), (.string ⟨#[]⟩)] := by kernel_rfl
theorem bt219_2 (x2 : Option Addr) : Try.prog.built 219 [(2, (.pointer x2))] = some #[(.pointer none), (.pointer none), (.pointer x2), (.string ⟨#[]⟩)] := by kernel_rfl
theorem bt219_3 (x3 : ByteArray) : Try.prog.built 219 [(3, (.string x3))] = some #[(.pointer none), (.pointer none), (.pointer none), (.string x3)] := by kernel_rfl
theorem bt219_01 (x0 : Option Addr) (x1 : Option Addr) : Try.prog.built 219 [(0, (.pointer x0)), (1, (.pointer x1))] = some #[(.pointer x0), (.pointer x1), (.pointer none), (.string ⟨#[]⟩)] := by kernel_rfl
theorem bt219_02 (x0 : Option Addr) (x2 : Option Addr) : Try.prog.built 219 [(0, (.pointer x0)), (2, (.pointer x2))] = some #[(.pointer x0), (.pointer none), (.pointer x2), (.string ⟨#[]⟩)] := by kernel_rfl
theorem bt219_03 (x0 : Option Addr) (x3 : ByteArray) : Try.prog.built 219 [(0, (.pointer x0)), (3, (.string x3))] = some #[(.pointer x0), (.pointer none), (.pointer none), (.string x3)] := by kernel_rfl
theorem bt219_12 (x1 : Option Addr) (x2 : Option Addr) : Try.prog.built 219 [(1, (.pointer x1)), (2, (.pointer x2))] = some #[(.pointer none), (.pointer x1), (.pointer x2), (.string ⟨#[]⟩)] := by kernel_rfl
theorem bt219_13 (x1 : Option Addr) (x3 : ByteArray) : Try.prog.built 219 [(1, (.pointer x1)), (3, (.string x3))] = some #[(.pointer none), (.pointer x1), (.pointer none), (.string x3)] := by kernel_rfl
theorem bt219_23 (x2 : Option Addr) (x3 : ByteArray) : Try.prog.built 219 [(2, (.pointer x2)), (3, (.string x3))] = some #[(.pointer none), (.pointer none), (.pointer x2), (.string x3)] := by kernel_rfl
theorem bt219_012 (x0 : Option Addr) (x1 : Option Addr) (x2 : Option Addr) : Try.prog.built 219 [(0, (.pointer x0)), (1, (.pointer x1)), (2, (.pointer x2))] = some #[(.pointer x0), (.pointer x1), (.pointer x2), (.string ⟨#[]⟩)] := by kernel_rfl
theorem bt219_013 (x0 : Option Addr) (x1 : Option Addr) (x3 : ByteArray) : Try.prog.built 219 [(0, (.pointer x0)), (1, (.pointer x1)), (3, (.string x3))] = some #[(.pointer x0), (.pointer x1), (.pointer none), (.string x3)] := by kernel_rfl
theorem bt219_023 (x0 : Option Addr) (x2 : Option Addr) (x3 : ByteArray) : Try.prog.built 219 [(0, (.pointer x0)), (2, (.pointer x2)), (3, (.string x3))] = some #[(.pointer x0), (.pointer none), (.pointer x2), (.string x3)] := by kernel_rfl
theorem bt219_123 (x1 : Option Addr) (x2 : Option Addr) (x3 : ByteArray) : Try.prog.built 219 [(1, (.pointer x1)), (2, (.pointer x2)), (3, (.string x3))] = some #[(.pointer none), (.pointer x1), (.pointer x2), (.string x3)] := by kernel_rfl
theorem bt219_0123 (x0 : Option Addr) (x1 : Option Addr) (x2 : Option Addr) (x3 : ByteArray) : Try.prog.built 219 [(0, (.pointer x0)), (1, (.pointer x1)), (2, (.pointer x2)), (3, (.string x3))] = some #[(.pointer x0), (.pointer x1), (.pointer x2), (.string x3)] := by kernel_rfl
theorem bt221_  : Try.prog.built 221 [] = some #[] := by kernel_rfl
theorem bt222_  : Try.prog.built 222 [] = some #[] := by kernel_rfl
attribute [go_sem] bt7_ bt7_0 bt7_1 bt7_2 bt7_3 bt7_01 bt7_02 bt7_03 bt7_12 bt7_13 bt7_23 bt7_012 bt7_013 bt7_023 bt7_123 bt7_0123 bt8_ bt8_0 bt8_1 bt8_2 bt8_3 bt8_01 bt8_02 bt8_03 bt8_12 bt8_13 bt8_23 bt8_012 bt8_013 bt8_023 bt8_123 bt8_0123 bt13_ bt13_0 bt13_1 bt13_01 bt14_ bt14_0 bt14_1 bt14_01 bt18_ bt18_0 bt19_ bt19_0 bs92_0 bs92_1 bs92_2 bs92_3 bs92_4 bs92_5 bs92_6 bt23_ bt23_0 bt23_1 bt23_2 bt23_01 bt23_02 bt23_12 bt23_012 bt24_ bt24_0 bt24_1 bt24_2 bt24_01 bt24_02 bt24_12 bt24_012 bs93_0 bs93_1 bs93_2 bs93_3 bs93_4 bs93_5 bs93_6 bt29_ bt29_0 bt29_1 bt29_2 bt29_01 bt29_02 bt29_12 bt29_012 bt30_ bt30_0 bt30_1 bt30_2 bt30_01 bt30_02 bt30_12 bt30_012 bt34_ bt34_0 bt34_1 bt34_01 bt35_ bt35_0 bt35_1 bt35_01 bt37_ bt37_0 bt37_1 bt37_01 bt38_ bt38_0 bt38_1 bt38_01 bs30_0 bs30_1 bs30_2 bs30_3 bs30_4 bs30_5 bs30_6 bs56_0 bs56_1 bs56_2 bs56_3 bs56_4 bs56_5 bs56_6 bs2_0 bs2_1 bs2_2 bs2_3 bs2_4 bs2_5 bs2_6 bs51_0 bs51_1 bs51_2 bs51_3 bs51_4 bs51_5 bs51_6 bt92_ bt92_0 bt92_1 bt92_2 bt92_01 bt92_02 bt92_12 bt92_012 bt93_ bt93_0 bt93_1 bt93_2 bt93_01 bt93_02 bt93_12 bt93_012 bs28_0 bs28_1 bs28_2 bs28_3 bs28_4 bs28_5 bs28_6 bs4_0 bs4_1 bs4_2 bs4_3 bs4_4 bs4_5 bs4_6 bs158_0 bs158_1 bs158_2 bs158_3 bs158_4 bs158_5 bs158_6 bt158_ bt158_0 bt158_1 bt158_01 bt218_ bt218_0 bt218_1 bt218_2 bt218_3 bt218_01 bt218_02 bt218_03 bt218_12 bt218_13 bt218_23 bt218_012 bt218_013 bt218_023 bt218_123 bt218_0123 bt219_ bt219_0 bt219_1 bt219_2 bt219_3 bt219_01 bt219_02 bt219_03 bt219_12 bt219_13 bt219_23 bt219_012 bt219_013 bt219_023 bt219_123 bt219_0123 bt221_ bt222_
attribute [go_sem] ti2 zok2 Try.underlying2 ti3 zok3 Try.underlying3 ti4 zok4 Try.underlying4 ti5 zok5 Try.underlying5 ti6 zok6 Try.underlying6 ti7 zok7 Try.underlying7 ti8 zok8 Try.underlying8 ti9 zok9 Try.underlying9 ti10 zok10 Try.underlying10 ti11 zok11 Try.underlying11 ti12 zok12 Try.underlying12 ti13 zok13 Try.underlying13 ti14 zok14 Try.underlying14 ti15 zok15 Try.underlying15 ti16 zok16 Try.underlying16 ti17 zok17 Try.underlying17 ti18 zok18 Try.underlying18 ti19 zok19 Try.underlying19 ti21 zok21 Try.underlying21 ti22 zok22 Try.underlying22 ti23 zok23 Try.underlying23 ti24 zok24 Try.underlying24 ti28 zok28 Try.underlying28 ti29 zok29 Try.underlying29 ti30 zok30 Try.underlying30 ti34 zok34 Try.underlying34 ti35 zok35 Try.underlying35 ti37 zok37 Try.underlying37 ti38 zok38 Try.underlying38 ti45 zok45 Try.underlying45 ti51 zok51 Try.underlying51 ti56 zok56 Try.underlying56 ti63 zok63 Try.underlying63 ti92 zok92 Try.underlying92 ti93 zok93 Try.underlying93 ti96 zok96 Try.underlying96 ti129 zok129 Try.underlying129 ti136 zok136 Try.underlying136 ti138 zok138 Try.underlying138 ti152 zok152 Try.underlying152 ti157 zok157 Try.underlying157 ti158 zok158 Try.underlying158 ti170 zok170 Try.underlying170 ti171 zok171 Try.underlying171 ti172 zok172 Try.underlying172 ti179 zok179 Try.underlying179 ti188 zok188 Try.underlying188 ti192 zok192 Try.underlying192 ti196 zok196 Try.underlying196 ti208 zok208 Try.underlying208 ti218 zok218 Try.underlying218 ti219 zok219 Try.underlying219 ti220 zok220 Try.underlying220 ti221 zok221 Try.underlying221 ti222 zok222 Try.underlying222 ti224 zok224 Try.underlying224 ti225 zok225 Try.underlying225 ti227 zok227 Try.underlying227 ti228 zok228 Try.underlying228 ti229 zok229 Try.underlying229 ti230 zok230 Try.underlying230 ti231 zok231 Try.underlying231
end Go.Proofs.Ytdfeoccjllljiaa
end

section
/- What every row of this seat needs of the program: closed facts. No statement of the seat is proved here. -/
set_option linter.all false
namespace Go.Proofs.Ytdfeoccjllljiaa
open Go.Ab
theorem own : ownKnob Try.prog.godebug = none := by kernel_rfl
theorem laidOut : laidOutB Try.prog = true := by kernel_rfl
theorem mixed : Try.prog.follows .mixedOrders = true := by kernel_rfl
theorem head_io : Try.prog.initOrder = "harness" ++ (" " ++ ("bb35bdd35c348ab4385da5a12f18689986d437c12ee91b369af19eae3e80db72" ++ (" " ++ ("cut" ++ (" " ++ ("at" ++ (" " ++ "loop.example/g01355/laws.FnExactIsMinimalTrade loop.example/g01355/laws.FnExactProductSystem loop.example/g01355/laws.FnExactPartsOfTrade loop.example/g01355/laws.FnExactIsSquare loop.example/g01355/laws.FnExactSquareKinds loop.example/g01355/laws.FnExactIsDifferenceFamily loop.example/g01355/laws.FnExactDifferenceFamilies loop.example/g01355/laws.FnExactNamedSystem loop.example/g01355/laws.FnExactSystemOf loop.example/g01355/laws.FnExactDoubleSystem loop.example/g01355/laws.FnExactLeadsTo loop.example/g01355/laws.FnExactRenumberSystem loop.example/g01355/laws.FnExactCyclicSystem loop.example/g01355/laws.FnExactThreefoldSystem"))))))) := by kernel_rfl
theorem head_ws : behindMainWord (wordsSigns Try.prog.initOrder.toList) = "cut".toList :: "at".toList :: wordsSigns "loop.example/g01355/laws.FnExactIsMinimalTrade loop.example/g01355/laws.FnExactProductSystem loop.example/g01355/laws.FnExactPartsOfTrade loop.example/g01355/laws.FnExactIsSquare loop.example/g01355/laws.FnExactSquareKinds loop.example/g01355/laws.FnExactIsDifferenceFamily loop.example/g01355/laws.FnExactDifferenceFamilies loop.example/g01355/laws.FnExactNamedSystem loop.example/g01355/laws.FnExactSystemOf loop.example/g01355/laws.FnExactDoubleSystem loop.example/g01355/laws.FnExactLeadsTo loop.example/g01355/laws.FnExactRenumberSystem loop.example/g01355/laws.FnExactCyclicSystem loop.example/g01355/laws.FnExactThreefoldSystem".toList :=
  cut_words head_io (by kernel_rfl) (by kernel_rfl) (by kernel_rfl) (by kernel_rfl) (by kernel_rfl) (by kernel_rfl)
theorem mkFact : Try.prog.make = some .cut := make_of head_ws (by kernel_rfl) (by kernel_rfl)
theorem liftFact : Try.prog.liftsFinal = false := liftsFinal_of head_ws
theorem enterFact : Try.prog.mayEnter = true := mayEnter_of head_ws (by kernel_rfl) (by kernel_rfl) (by kernel_rfl)
theorem rowedFact : mapsRowed Try.prog = true := by kernel_rfl
theorem heardFact : Try.prog.stopsHeard = true := by kernel_rfl
end Go.Proofs.Ytdfeoccjllljiaa
end

section
/- slices.Collect over slices.Values at numbers: a new list that holds the same numbers, and nothing that lay has turned. -/
set_option linter.all false
namespace Go.Proofs.Ytdfeoccjllljiaa
open Go.RowKit Go.Shelf

attribute [local go_sem] Oper.semAt_some

/-- The slice value sv holds the numbers zs, in a block below n₀; or it has no element. -/
def IIn (n₀ : Nat) (W : World) (sv : Value) (zs : List Int) : Prop :=
  (∃ a cap, sv = .slice a 0 cap ∧ zs = []) ∨ ∃ b off cap, sv = .slice (some ⟨b, off, none⟩) zs.length cap ∧ b < n₀ ∧ ∀ j, j < zs.length → W.cell? ⟨b, off + j, none⟩ = some (.int .i64 (zs[j]?.getD 0))
theorem IIn.below {n₀ : Nat} {A B : World} (h : Below n₀ A B) {sv : Value} {zs : List Int} : IIn n₀ A sv zs → IIn n₀ B sv zs
  | .inl e => .inl e
  | .inr ⟨b, off, cap, e, hb, hc⟩ => .inr ⟨b, off, cap, e, hb, fun j hj => (h.cell (p := ⟨b, off + j, none⟩) hb).trans (hc j hj)⟩

end Go.Proofs.Ytdfeoccjllljiaa
end

section
/- Lists that a call builds for itself: appending, marking, what stays as it was. No statement of the seat is proved here; it holds for every program. -/
set_option linter.all false
namespace Go.Ab

/-- All blocks but those of S are as they were. -/
def Same (S : Nat → Prop) (H H' : Heap) : Prop := H.length ≤ H'.length ∧ ∀ j, j < H.length → ¬ S j → H'[j]? = H[j]?

theorem Same.refl (S : Nat → Prop) (H : Heap) : Same S H H := ⟨Nat.le_refl _, fun _ _ _ => rfl⟩
theorem Same.trans {S : Nat → Prop} {H H' H'' : Heap} (h : Same S H H') (h' : Same S H' H'') : Same S H H'' :=
  ⟨Nat.le_trans h.1 h'.1, fun j hj hs => (h'.2 j (Nat.lt_of_lt_of_le hj h.1) hs).trans (h.2 j hj hs)⟩
theorem Same.mono {S T : Nat → Prop} {H H' : Heap} (h : Same S H H') (hst : ∀ j, j < H.length → S j → T j) : Same T H H' :=
  ⟨h.1, fun j hj hs => h.2 j hj fun hS => hs (hst j hj hS)⟩
theorem Same.of_prefix {S : Nat → Prop} {H H' : Heap} (h : H <+: H') : Same S H H' := by
  obtain ⟨t, rfl⟩ := h
  exact ⟨by simp, fun j hj _ => List.getElem?_append_left hj⟩
theorem Same.prefix {S : Nat → Prop} {H H' : Heap} (h : Same S H H') (hs : ∀ j, j < H.length → ¬ S j) : H <+: H' := by
  rw [List.prefix_iff_eq_take]
  apply List.ext_getElem?
  intro j
  by_cases hj : j < H.length
  · rw [List.getElem?_take, if_pos hj, h.2 j hj (hs j hj)]
  · rw [List.getElem?_take, if_neg hj, List.getElem?_eq_none (by omega)]
theorem Same.get {S : Nat → Prop} {H H' : Heap} (h : Same S H H') {j : Nat} {b : Blk} (hb : H[j]? = some b) (hs : ¬ S j) : H'[j]? = some b := by
  rw [h.2 j (List.getElem?_eq_some_iff.1 hb).1 hs]; exact hb

/-- A list of n elements of e cells that the call holds alone. -/
def OL (e : Nat) (H : Heap) (id : Nat) (cs : List Value) (n : Nat) : Prop :=
  cs.length = n * e ∧ ((n = 0 ∧ ghostAt H id = true) ∨ H[id]? = some ⟨cs, true, true⟩)

theorem OL.lt {e : Nat} {H : Heap} {id : Nat} {cs : List Value} {n : Nat} (h : OL e H id cs n) : id < H.length := by
  rcases h.2 with ⟨_, h⟩ | h
  · obtain ⟨b, hb, _⟩ := ghostAt_inv h
    exact (List.getElem?_eq_some_iff.1 hb).1
  · exact (List.getElem?_eq_some_iff.1 h).1

theorem OL.at {e : Nat} {H : Heap} {id : Nat} {cs : List Value} {n : Nat} (h : OL e H id cs n) : At H id 0 cs := by
  rcases h.2 with ⟨h0, _⟩ | h'
  · left; subst h0; exact List.eq_nil_of_length_eq_zero (by simpa using h.1)
  · exact Holds.at ⟨true, h'⟩

theorem OL.ghost (e : Nat) (H : Heap) : OL e (H ++ [⟨[], false, false⟩]) H.length [] 0 :=
  ⟨by simp, .inl ⟨rfl, by simp [ghostAt]⟩⟩

theorem OL.keep {e : Nat} {H H' : Heap} {id : Nat} {cs : List Value} {n : Nat} (h : OL e H id cs n) {S : Nat → Prop} (hs : Same S H H') (hi : ¬ S id) : OL e H' id cs n := by
  refine ⟨h.1, ?_⟩
  rcases h.2 with ⟨h0, h'⟩ | h'
  · left
    obtain ⟨b, hb, h1, h2⟩ := ghostAt_inv h'
    refine ⟨h0, ?_⟩
    have := hs.get hb hi
    simp [ghostAt, this, h1, h2]
  · right; exact hs.get h' hi

/-- append to such a list. -/
theorem OL.append {e : Nat} {H : Heap} {id : Nat} {cs : List Value} {n : Nat} (h : OL e H id cs n) (he : 0 < e) {m : Nat} (hm : 0 < m) {news : List Value} (hn : news.length = m * e) :
    ∃ H', appendH H e (lv e id 0 n) m news = some (lv e H.length 0 (n + m), H') ∧ OL e H' H.length (cs ++ news) (n + m) ∧ Same (fun j => j = id) H H' ∧ H'.length = H.length + 1 := by
  rcases h.2 with ⟨h0, hg⟩ | hb
  · subst h0
    have : cs = [] := List.eq_nil_of_length_eq_zero (by simpa using h.1)
    subst this
    refine ⟨H ++ [⟨news, true, true⟩], ?_, ⟨by simpa using hn, .inr (by simp)⟩, Same.of_prefix (List.prefix_append _ _), by simp⟩
    simp [appendH, show ¬ m = 0 by omega, he, hg]
  · have hc : cellsAt H id 0 (n * e) = some cs := by rw [← h.1, cellsAt_of hb rfl (by simp)]; simp
    have hown : ownAt H id = true := by simp [ownAt, hb]
    have hng : ghostAt H id = false := by simp [ghostAt, hb]
    refine ⟨H.kill id ++ [⟨cs ++ news, true, true⟩], ?_, ⟨by simp [h.1, hn, Nat.add_mul], .inr (by rw [List.getElem?_append_right (by rw [Heap.kill_length]; exact Nat.le_refl _), Heap.kill_length]; simp)⟩, ⟨by simp [Heap.kill_length], fun j hj hs => ?_⟩, by simp [Heap.kill_length]⟩
    · simp [appendH, show ¬ m = 0 by omega, hown, hng, hc]
    · rw [List.getElem?_append_left (by rw [Heap.kill_length]; exact hj)]
      unfold Heap.kill
      rw [hb]
      exact List.getElem?_set_ne (fun e => hs e.symm)

/-- 'append(s, x)': the text builds a slice of one element first. -/
theorem OL.push {e : Nat} {H : Heap} {id : Nat} {cs : List Value} {n : Nat} (h : OL e H id cs n) (he : 0 < e) {xs : List Value} (hx : xs.length = e) :
    cellsAt (H ++ [⟨xs, true, true⟩]) H.length 0 e = some xs ∧ ∃ H', appendH (H ++ [⟨xs, true, true⟩]) e (lv e id 0 n) 1 xs = some (lv e (H.length + 1) 0 (n + 1), H') ∧ OL e H' (H.length + 1) (cs ++ xs) (n + 1) ∧ Same (fun j => j = id) H H' ∧ H'.length = H.length + 2 := by
  have hid := h.lt
  have hk : OL e (H ++ [⟨xs, true, true⟩]) id cs n := h.keep (S := fun _ => False) (Same.of_prefix (List.prefix_append _ _)) (fun hh => hh)
  obtain ⟨H', h1, h2, h3, h4⟩ := hk.append he (m := 1) (by omega) (news := xs) (by simpa using hx)
  refine ⟨?_, H', by simpa using h1, by simpa using h2, ?_, by simpa using h4⟩
  · rw [cellsAt_of (b := ⟨xs, true, true⟩) (by simp) rfl (by simp [hx])]
    simp [← hx]
  · exact (Same.of_prefix (S := fun j => j = id) (List.prefix_append H [⟨xs, true, true⟩])).trans h3

theorem Up.tuple {H : Heap} {xs ys : Array Value} (h : Ups H xs.toList ys.toList) : Up H (.tuple xs) (.tuple ys) := by
  intro B w0 ρ w cv hR hv
  obtain ⟨zs, rfl, hz⟩ := hv.tuple_inv
  exact VR.tuple_of (h.vrs hR hz)

/-- The result may be said less of. -/
theorem ACalls.res {P : Program} {f : FuncId} {args : List Value} {H : Heap} {Post : Value → Heap → Prop} (h : ACalls P f args H fun v H' => ∃ v', Up H' v v' ∧ Post v' H') : ACalls P f args H Post :=
  ⟨h.1, fun B w0 ρ w cargs hR hv => (h.2 B w0 ρ w cargs hR hv).mono fun e w' hp => by
    obtain ⟨ρ', H', v, cv, h1, h2, h3, h4, v', h5, h6⟩ := hp
    exact ⟨ρ', H', v', cv, h1, h2, h3, h5 _ _ _ _ _ h3 h4, h6⟩⟩

theorem ACalls.addGhost {P : Program} {f : FuncId} {args : List Value} {H : Heap} {Post : Value → Heap → Prop} (h : ACalls P f args (H ++ [⟨[], false, false⟩]) Post) : ACalls P f args H Post :=
  ⟨h.1, fun B w0 ρ w cargs hR hv => (h.2 B w0 _ w cargs hR.addGhost (hv.mono (List.prefix_append _ _))).mono fun e w' hp => by
    obtain ⟨ρ', H', v, cv, h1, h2, h3⟩ := hp
    exact ⟨ρ', H', v, cv, h1, (List.prefix_append _ _).trans h2, h3⟩⟩

/-- The numbers from k on. -/
def upFrom (k : Int) (n : Nat) : List Int := (List.range n).map fun j : Nat => k + (j : Int)

theorem upFrom_length (k : Int) (n : Nat) : (upFrom k n).length = n := by simp [upFrom]
theorem upFrom_get {k : Int} {n j : Nat} (h : j < n) : (upFrom k n)[j]? = some (k + (j : Int)) := by simp [upFrom, h]
theorem upFrom_append (k : Int) (m n : Nat) : upFrom k m ++ upFrom (k + (m : Int)) n = upFrom k (m + n) := by
  simp only [upFrom, List.range_add, List.map_append, List.map_map]
  congr 1
  apply List.map_congr_left
  intro a _
  simp only [Function.comp, Int.natCast_add]
  omega

/-- A block's numbers replaced. -/
def setInts (H : Heap) (i : Nat) (xs : List Int) : Heap := if xs = [] then H else H.set i ⟨ints xs, true, true⟩

/-- Lists of numbers that the call holds alone, each by its block. -/
def Rows1 (H : Heap) (rows : List (Nat × List Int)) : Prop :=
  (∀ r ∈ rows, r.2 = [] ∨ H[r.1]? = some ⟨ints r.2, true, true⟩) ∧ ∀ (a b : Nat) (r t : Nat × List Int), rows[a]? = some r → rows[b]? = some t → a ≠ b → r.2 ≠ [] → t.2 ≠ [] → r.1 ≠ t.1

def rowVal (r : Nat × List Int) : Value := lv 1 r.1 0 r.2.length

/-- A list of such lists. -/
def OwnRows (H : Heap) (v : Value) (rows : List (Nat × List Int)) : Prop :=
  ∃ id, v = lv 1 id 0 rows.length ∧ At H id 0 (rows.map rowVal) ∧ Rows1 H rows ∧ (∀ r ∈ rows, r.2 ≠ [] → r.1 ≠ id) ∧ rows.length ≤ 140737488355328 ∧ ∀ r ∈ rows, r.2.length ≤ 140737488355328

/-- A list of lists of numbers, to be read. -/
def IntssAt (H : Heap) (v : Value) (xss : List (List Int)) : Prop :=
  ∃ (i o : Nat) (vs : List Value), v = lv 1 i o xss.length ∧ vs.length = xss.length ∧ At H i o vs ∧ (∀ (k : Nat) (u : Value) (xs : List Int), vs[k]? = some u → xss[k]? = some xs → IntsAt H u xs) ∧ xss.length ≤ 140737488355328

theorem IntssAt.pre {H H' : Heap} (hp : H <+: H') {v : Value} {xss : List (List Int)} (h : IntssAt H v xss) : IntssAt H' v xss := by
  obtain ⟨i, o, vs, h1, h2, h3, h4, h5⟩ := h
  exact ⟨i, o, vs, h1, h2, h3.pre hp, fun k u xs a b => (h4 k u xs a b).pre hp, h5⟩

theorem OwnRows.read {H : Heap} {v : Value} {rows : List (Nat × List Int)} (h : OwnRows H v rows) : IntssAt H v (rows.map (·.2)) := by
  obtain ⟨id, h1, h2, h3, h4, h5, h6⟩ := h
  refine ⟨id, 0, rows.map rowVal, by simpa using h1, by simp, h2, ?_, by simpa using h5⟩
  intro k u xs hu hx
  simp only [List.getElem?_map, Option.map_eq_some_iff] at hu hx
  obtain ⟨r, hr, rfl⟩ := hu
  obtain ⟨r', hr', rfl⟩ := hx
  rw [hr] at hr'; cases hr'
  have hm := List.mem_of_getElem? hr
  refine ⟨r.1, 0, rfl, ?_, h6 r hm⟩
  rcases h3.1 r hm with h | h
  · left; simp [h, ints]
  · exact Holds.at ⟨true, h⟩

/-- How many numbers stand ahead of the list s. -/
def off (xss : List (List Int)) (s : Nat) : Nat := (xss.take s).flatten.length

theorem off_succ {xss : List (List Int)} {s : Nat} {xs : List Int} (h : xss[s]? = some xs) : off xss (s + 1) = off xss s + xs.length := by
  obtain ⟨hlt, he⟩ := List.getElem?_eq_some_iff.1 h
  simp only [off, List.take_succ_eq_append_getElem hlt, List.flatten_append, List.length_append, he]
  simp
theorem off_all (xss : List (List Int)) : off xss xss.length = xss.flatten.length := by simp [off]
theorem off_le (xss : List (List Int)) (s : Nat) : off xss s ≤ xss.flatten.length := by
  unfold off
  conv => rhs; rw [← List.take_append_drop s xss]
  simp only [List.flatten_append, List.length_append]
  omega
theorem off_le' {xss : List (List Int)} {s : Nat} {xs : List Int} (h : xss[s]? = some xs) : off xss s + xs.length ≤ xss.flatten.length := by
  rw [← off_succ h]; exact off_le _ _

/-- The lists, each number in place of what was there. -/
def marked : Int → List (List Int) → List (List Int)
  | _, [] => []
  | k, xs :: xss => upFrom k xs.length :: marked (k + (xs.length : Int)) xss

theorem marked_length : ∀ (k : Int) (xss : List (List Int)), (marked k xss).length = xss.length
  | _, [] => rfl
  | k, xs :: xss => by simp [marked, marked_length]
theorem marked_get : ∀ (k : Int) (xss : List (List Int)) (s : Nat), (marked k xss)[s]? = xss[s]?.map fun xs => upFrom (k + (off xss s : Int)) xs.length
  | _, [], s => by simp [marked]
  | k, xs :: xss, 0 => by simp [marked, off]
  | k, xs :: xss, s + 1 => by
    simp only [marked, List.getElem?_cons_succ]
    rw [marked_get (k + (xs.length : Int)) xss s]
    congr 1
    funext ys
    congr 1
    simp only [off, List.take_succ_cons, List.flatten_cons, List.length_append, Int.natCast_add]
    omega
theorem marked_off (k : Int) (xss : List (List Int)) (s : Nat) : off (marked k xss) s = off xss s := by
  induction xss generalizing k s with
  | nil => simp [marked]
  | cons xs xss ih =>
    cases s with
    | zero => simp [off]
    | succ s =>
      have := ih (k + (xs.length : Int)) s
      simp only [off, marked, List.take_succ_cons, List.flatten_cons, List.length_append, upFrom_length] at this ⊢
      omega
theorem marked_total (k : Int) (xss : List (List Int)) : (marked k xss).flatten.length = xss.flatten.length := by
  rw [← off_all, ← off_all, marked_off, marked_length]

/-- A list of lists while it is built. -/
structure Build (H0 H : Heap) (oid : Nat) (rows : List (Nat × List Int)) : Prop where
  pre : H0 <+: H
  ol : OL 1 H oid (rows.map rowVal) rows.length
  ge : H0.length ≤ oid
  rows1 : Rows1 H rows
  ids : ∀ r ∈ rows, H0.length ≤ r.1 ∧ r.1 < H.length ∧ r.1 ≠ oid

theorem Build.start (H : Heap) : Build H (H ++ [⟨[], false, false⟩]) H.length [] :=
  ⟨List.prefix_append _ _, OL.ghost 1 H, Nat.le_refl _, ⟨by simp, by simp⟩, by simp⟩

theorem Build.of_ol {H0 H : Heap} {oid : Nat} (hp : H0 <+: H) (h : OL 1 H oid [] 0) (hg : H0.length ≤ oid) : Build H0 H oid [] :=
  ⟨hp, h, hg, ⟨by simp, by simp⟩, by simp⟩

theorem Build.push {H0 H1 H2 : Heap} {oid rid : Nat} {rows : List (Nat × List Int)} {xs : List Int} (h : Build H0 H1 oid rows) (hp : H1 <+: H2) (hr : OL 1 H2 rid (ints xs) xs.length) (hrid : H1.length ≤ rid) :
    cellsAt (H2 ++ [⟨[lv 1 rid 0 xs.length], true, true⟩]) H2.length 0 1 = some [lv 1 rid 0 xs.length] ∧
    ∃ H4, appendH (H2 ++ [⟨[lv 1 rid 0 xs.length], true, true⟩]) 1 (lv 1 oid 0 rows.length) 1 [lv 1 rid 0 xs.length] = some (lv 1 (H2.length + 1) 0 (rows.length + 1), H4) ∧ Build H0 H4 (H2.length + 1) (rows ++ [(rid, xs)]) := by
  have hol' : OL 1 H2 oid (rows.map rowVal) rows.length := h.ol.keep (S := fun _ => False) (Same.of_prefix hp) (fun h => h)
  obtain ⟨hsrc, H4, hap, hol4, hsame4, hlen4⟩ := hol'.push (xs := [lv 1 rid 0 xs.length]) (by omega) rfl
  have hoid := h.ol.lt
  have hle := hp.length_le
  have hle0 := h.pre.length_le
  have hlt := hr.lt
  refine ⟨hsrc, H4, hap, ⟨(show Same (fun j => j = oid) H0 H4 from (Same.of_prefix (h.pre.trans hp)).trans hsame4).prefix (by have := h.ge; omega), by simpa [rowVal] using hol4, by omega, ⟨?_, ?_⟩, ?_⟩⟩
  · intro r hm
    rcases List.mem_append.1 hm with hm | hm
    · refine (h.rows1.1 r hm).imp (fun h => h) fun hb => ?_
      exact hsame4.get (Same.get (S := fun _ => False) (Same.of_prefix hp) hb (fun h => h)) (h.ids r hm).2.2
    · simp at hm; subst hm
      rcases hr.2 with ⟨h0, _⟩ | h0
      · exact .inl (List.eq_nil_of_length_eq_zero h0)
      · right
        exact hsame4.get h0 (by simp only; omega)
  · intro a b r t ha hb hab hrn htn
    have key : ∀ (a : Nat) (r : Nat × List Int), (rows ++ [(rid, xs)])[a]? = some r → (a < rows.length ∧ rows[a]? = some r) ∨ (a = rows.length ∧ r = (rid, xs)) := by
      intro a r ha
      rcases Nat.lt_or_ge a rows.length with h | h
      · rw [List.getElem?_append_left h] at ha; exact .inl ⟨h, ha⟩
      · rw [List.getElem?_append_right h] at ha
        cases hk : a - rows.length with
        | zero => rw [hk] at ha; simp at ha; exact .inr ⟨by omega, ha.symm⟩
        | succ k => rw [hk] at ha; simp at ha
    rcases key a r ha with ⟨h1, h1'⟩ | ⟨h1, rfl⟩
    · rcases key b t hb with ⟨h2, h2'⟩ | ⟨h2, rfl⟩
      · exact h.rows1.2 a b r t h1' h2' hab hrn htn
      · have := (h.ids r (List.mem_of_getElem? h1')).2.1; simp only; omega
    · rcases key b t hb with ⟨h2, h2'⟩ | ⟨h2, rfl⟩
      · have := (h.ids t (List.mem_of_getElem? h2')).2.1; simp only; omega
      · omega
  · intro r hm
    rcases List.mem_append.1 hm with hm | hm
    · have := h.ids r hm
      omega
    · simp at hm; subst hm; simp only; omega

theorem Build.own {H0 H : Heap} {oid : Nat} {rows : List (Nat × List Int)} (h : Build H0 H oid rows) (hl : rows.length ≤ 140737488355328) (hls : ∀ r ∈ rows, r.2.length ≤ 140737488355328) : OwnRows H (lv 1 oid 0 rows.length) rows :=
  ⟨oid, rfl, h.ol.at, h.rows1, fun r hr _ => (h.ids r hr).2.2, hl, hls⟩

theorem OwnRows.keep {H H' : Heap} (hp : H <+: H') {v : Value} {rows : List (Nat × List Int)} (h : OwnRows H v rows) : OwnRows H' v rows := by
  obtain ⟨id, h1, h2, h3, h4, h5, h6⟩ := h
  refine ⟨id, h1, h2.pre hp, ⟨fun r hr => (h3.1 r hr).imp (fun h => h) fun hb => ?_, h3.2⟩, h4, h5, h6⟩
  exact Same.get (S := fun _ => False) (Same.of_prefix hp) hb (fun h => h)

theorem OwnRows.nil (H : Heap) : OwnRows H (lv 1 0 0 0) [] := ⟨0, rfl, .inl rfl, ⟨by simp, by simp⟩, by simp, by simp, by simp⟩

end Go.Ab
end

section
/- Blocks of three numbers and lists of them in the abstract heap; memory at the heap's end. No statement of the seat is proved here; it holds for every program. -/
set_option linter.all false
namespace Go.Ab

/-! Memory at the heap's end, for simp. -/

def cellsB (b : Option Blk) (o n : Nat) : Option (List Value) :=
  match b with
  | some b => if b.live = true ∧ o + n ≤ b.cells.length then some ((b.cells.drop o).take n) else none
  | none => none
theorem cellsAt_end0 (H L : Heap) (o n : Nat) : cellsAt (H ++ L) H.length o n = cellsB L[0]? o n := by
  have : (H ++ L)[H.length]? = L[0]? := by rw [List.getElem?_append_right (Nat.le_refl _)]; simp
  unfold cellsAt cellsB; rw [this]; rfl
theorem cellsAt_endk (H L : Heap) (k o n : Nat) : cellsAt (H ++ L) (H.length + k) o n = cellsB L[k]? o n := by
  have : (H ++ L)[H.length + k]? = L[k]? := by rw [List.getElem?_append_right (by omega)]; simp
  unfold cellsAt cellsB; rw [this]; rfl
def storeB (H L : Heap) (k o : Nat) (vs : List Value) (b : Option Blk) : Option Heap :=
  match b with
  | some b => if b.live = true ∧ b.own = true ∧ o + vs.length ≤ b.cells.length ∧ vs.all Value.oneCell' = true then some (H ++ L.set k { b with cells := over b.cells o vs }) else none
  | none => none
theorem storeAt_end0 (H L : Heap) (o : Nat) (vs : List Value) : storeAt (H ++ L) H.length o vs = storeB H L 0 o vs L[0]? := by
  have : (H ++ L)[H.length]? = L[0]? := by rw [List.getElem?_append_right (Nat.le_refl _)]; simp
  unfold storeAt storeB; rw [this]
  cases L[0]? with
  | none => rfl
  | some b =>
    simp only
    rw [List.set_append_right _ _ (Nat.le_refl _), Nat.sub_self]
theorem storeAt_endk (H L : Heap) (k o : Nat) (vs : List Value) : storeAt (H ++ L) (H.length + k) o vs = storeB H L k o vs L[k]? := by
  have : (H ++ L)[H.length + k]? = L[k]? := by rw [List.getElem?_append_right (by omega)]; simp
  unfold storeAt storeB; rw [this]
  cases L[k]? with
  | none => rfl
  | some b =>
    simp only
    rw [List.set_append_right _ _ (by omega), Nat.add_sub_cancel_left]

attribute [go_sem] cellsB cellsAt_end0 cellsAt_endk storeB storeAt_end0 storeAt_endk over srcCells

/-- A block. -/
structure Bk where
  a : Int
  b : Int
  c : Int
deriving DecidableEq

def Bk.cells (b : Bk) : List Value := [.int .i64 b.a, .int .i64 b.b, .int .i64 b.c]
def Bk.val (b : Bk) : Value := .agg #[.int .i64 b.a, .int .i64 b.b, .int .i64 b.c]
def tri (bs : List Bk) : List Value := bs.flatMap Bk.cells

/-- A slice of blocks. -/
def BlocksAt (H : Heap) (v : Value) (bs : List Bk) : Prop := ∃ i o, v = lv 3 i o bs.length ∧ At H i o (tri bs) ∧ bs.length ≤ 140737488355328

theorem BlocksAt.pre {H H' : Heap} (hp : H <+: H') {v : Value} {bs : List Bk} (h : BlocksAt H v bs) : BlocksAt H' v bs := by
  obtain ⟨i, o, h1, h2, h3⟩ := h
  exact ⟨i, o, h1, h2.pre hp, h3⟩

theorem one_int (k : IntKind) (n : Int) : (Value.int k n).oneCell' = true := rfl
theorem one_bool (b : Bool) : (Value.bool b).oneCell' = true := rfl
theorem one_str (s : ByteArray) : (Value.string s).oneCell' = true := rfl
theorem one_slice (a : Option Addr) (n c : Nat) : (Value.slice a n c).oneCell' = true := rfl
theorem one_ptr (a : Option Addr) : (Value.pointer a).oneCell' = true := rfl
theorem one_func (f : Fn) (az bs : Array Value) : (Value.func f az bs).oneCell' = true := rfl
attribute [go_sem] one_int one_bool one_str one_slice one_ptr one_func
theorem IntsAt.one {H : Heap} {v : Value} {xs : List Int} (h : IntsAt H v xs) : v.oneCell' = true := by obtain ⟨i, o, rfl, _⟩ := h; rfl
theorem BlocksAt.one {H : Heap} {v : Value} {bs : List Bk} (h : BlocksAt H v bs) : v.oneCell' = true := by obtain ⟨i, o, rfl, _⟩ := h; rfl

/-- A system's value. -/
def sysV (p : Int) (v : Value) : Value := .agg #[.int .i64 p, v]

/-- A slice of blocks that the call holds alone. -/
def OwnBlocks (H : Heap) (v : Value) (id : Nat) (bs : List Bk) : Prop := v = lv 3 id 0 bs.length ∧ (bs = [] ∨ H[id]? = some ⟨tri bs, true, true⟩) ∧ bs.length ≤ 140737488355328

theorem OwnBlocks.read {H : Heap} {v : Value} {id : Nat} {bs : List Bk} (h : OwnBlocks H v id bs) : BlocksAt H v bs := by
  obtain ⟨h1, h2, h3⟩ := h
  refine ⟨id, 0, h1, ?_, h3⟩
  rcases h2 with rfl | h2
  · exact .inl rfl
  · exact Holds.at ⟨true, h2⟩

theorem OwnBlocks.keep {H H' : Heap} {v : Value} {id : Nat} {bs : List Bk} (h : OwnBlocks H v id bs) {S : Nat → Prop} (hs : Same S H H') (hi : ¬ S id) : OwnBlocks H' v id bs := by
  obtain ⟨h1, h2, h3⟩ := h
  exact ⟨h1, h2.imp (fun h => h) fun hb => hs.get hb hi, h3⟩

theorem Same.set {H : Heap} {i : Nat} {b : Blk} : Same (fun j => j = i) H (H.set i b) :=
  ⟨by simp, fun _ _ hs => List.getElem?_set_ne (fun e => hs e.symm)⟩

end Go.Ab
end

section
/- Arrays of elements of a fixed number of cells in one block that the call holds alone; swapping two of them. No statement of the seat is proved here; it holds for every program. -/
set_option linter.all false
namespace Go.Ab
open Go.Sort

section
variable {α : Type} {cells : α → List Value} {w : Nat}

theorem flat_len (hc : ∀ x, (cells x).length = w) : ∀ l : List α, (l.flatMap cells).length = l.length * w
  | [] => by simp
  | b :: l => by rw [List.flatMap_cons, List.length_append, flat_len hc l, hc, List.length_cons, Nat.succ_mul, Nat.add_comm]
theorem flat_cut (hc : ∀ x, (cells x).length = w) : ∀ {l : List α} {s : Nat} {b : α}, l[s]? = some b → ((l.flatMap cells).drop (s * w)).take w = cells b
  | [], s, b, h => by simp at h
  | d :: l, 0, b, h => by
    simp at h; subst h
    rw [List.flatMap_cons, Nat.zero_mul, List.drop_zero, List.take_append_of_le_length (by rw [hc]; exact Nat.le_refl _), List.take_of_length_le (by rw [hc]; exact Nat.le_refl _)]
  | d :: l, s + 1, b, h => by
    have ih := flat_cut hc (l := l) (s := s) (b := b) (by simpa using h)
    rw [List.flatMap_cons, show (s + 1) * w = (cells d).length + s * w by rw [hc, Nat.succ_mul, Nat.add_comm], List.drop_append, List.drop_eq_nil_of_le (by omega), List.nil_append, Nat.add_sub_cancel_left]
    exact ih
theorem flat_over (hc : ∀ x, (cells x).length = w) : ∀ {l : List α} {s : Nat} {b : α}, s < l.length → over (l.flatMap cells) (s * w) (cells b) = (l.set s b).flatMap cells
  | [], s, b, h => by simp at h
  | d :: l, 0, b, h => by
    simp only [List.set_cons_zero, List.flatMap_cons, over, Nat.zero_mul, List.take_zero, List.nil_append, Nat.zero_add, hc]
    rw [List.drop_append, List.drop_eq_nil_of_le (by rw [hc]; exact Nat.le_refl _), hc, Nat.sub_self, List.drop_zero, List.nil_append]
  | d :: l, s + 1, b, h => by
    have ih := flat_over hc (l := l) (s := s) (b := b) (by simpa using h)
    simp only [List.set_cons_succ, List.flatMap_cons]
    rw [← ih]
    have e : (s + 1) * w = (cells d).length + s * w := by rw [hc, Nat.succ_mul, Nat.add_comm]
    simp only [over, e]
    rw [List.take_append, List.take_of_length_le (by omega), Nat.add_sub_cancel_left, Nat.add_assoc, List.drop_append, List.drop_eq_nil_of_le (by omega), List.nil_append, Nat.add_sub_cancel_left]
    simp

theorem Same.via {S T : Nat → Prop} {H A B : Heap} (h : Same S H A) (h' : Same T A B) (k : ∀ j, j < H.length → T j → S j) : Same S H B :=
  ⟨Nat.le_trans h.1 h'.1, fun j hj hs => (h'.2 j (Nat.lt_of_lt_of_le hj h.1) fun ht => hs (k j hj ht)).trans (h.2 j hj hs)⟩

/-- The block id holds an array's elements. -/
def Arr (cells : α → List Value) (H : Heap) (id : Nat) (d : Array α) : Prop := H[id]? = some ⟨d.toList.flatMap cells, true, true⟩

theorem Arr.lt {H : Heap} {id : Nat} {d : Array α} (h : Arr cells H id d) : id < H.length := (List.getElem?_eq_some_iff.1 h).1
theorem Arr.pre {H H' : Heap} {id : Nat} {d : Array α} (h : Arr cells H id d) (hp : H <+: H') : Arr cells H' id d := Same.get (S := fun _ => False) (Same.of_prefix hp) h (fun h => h)
theorem Arr.load [Inhabited α] {H : Heap} {id : Nat} {d : Array α} (h : Arr cells H id d) (hc : ∀ x, (cells x).length = w) {i : Nat} (hi : i < d.size) : cellsAt H id (i * w) w = some (cells d[i]!) := by
  have hl : d.toList[i]? = some d[i]! := by rw [Array.getElem?_toList, Array.getElem?_eq_getElem hi, getElem!_pos d i hi]
  have hle : i * w + w ≤ (d.toList.flatMap cells).length := by
    rw [flat_len hc, Array.length_toList, ← Nat.succ_mul]
    exact Nat.mul_le_mul_right w hi
  rw [cellsAt_of h rfl hle, flat_cut hc hl]
theorem Arr.store {H : Heap} {id : Nat} {d : Array α} (h : Arr cells H id d) (hc : ∀ x, (cells x).length = w) (ho : ∀ x, (cells x).all Value.oneCell' = true) {i : Nat} {x : α} (hi : i < d.size) :
    storeAt H id (i * w) (cells x) = some (H.set id ⟨(d.setIfInBounds i x).toList.flatMap cells, true, true⟩) ∧ Arr cells (H.set id ⟨(d.setIfInBounds i x).toList.flatMap cells, true, true⟩) id (d.setIfInBounds i x) := by
  have hle : i * w + w ≤ (d.toList.flatMap cells).length := by
    rw [flat_len hc, Array.length_toList, ← Nat.succ_mul]
    exact Nat.mul_le_mul_right w hi
  refine ⟨?_, List.getElem?_set_self h.lt⟩
  rw [storeAt_of h rfl rfl (by rw [hc]; exact hle) (ho x), flat_over hc (by simpa using hi)]
  simp

theorem same_set {H : Heap} {id : Nat} {b : Blk} : Same (fun j => j = id) H (H.set id b) := ⟨by simp, fun j hj hS => List.getElem?_set_ne (fun e => hS e.symm)⟩
end

/-- A function value that compares two elements. -/
def Cmp {α : Type} (P : Program) (val : α → Value) (lt : α → α → Bool) (g : FuncId) (fs cs : List Value) (Q : α → Prop) (id : Nat) (H : Heap) : Prop :=
  ∀ (H' : Heap) (x y : α) (Post : Value → Heap → Prop), Same (fun k => k = id) H H' → Q x → Q y →
    (∀ (H'' : Heap) (c : Int), H' <+: H'' → decide (c < 0) = lt x y → Post (.int .i64 c) H'') → ACalls P g (fs ++ val x :: val y :: cs) H' Post
theorem Cmp.keep {α : Type} {P : Program} {val : α → Value} {lt : α → α → Bool} {g : FuncId} {fs cs : List Value} {Q : α → Prop} {id : Nat} {H H' : Heap} (h : Cmp P val lt g fs cs Q id H) (hs : Same (fun k => k = id) H H') : Cmp P val lt g fs cs Q id H' :=
  fun H2 x y Post h2 => h H2 x y Post (hs.trans h2)

end Go.Ab
end

section
/- The kinds of elements that are sorted. No statement of the seat is proved here. -/
set_option linter.all false
namespace Go.Ab
open Go.Sort

instance : Inhabited Bk := ⟨⟨0, 0, 0⟩⟩
/-- A list of numbers by its place. -/
structure Row where
  id : Nat
  o : Nat
  xs : List Int
instance : Inhabited Row := ⟨⟨0, 0, []⟩⟩
def Row.val (r : Row) : Value := lv 1 r.id r.o r.xs.length
def Row.cells (r : Row) : List Value := [r.val]
end Go.Ab
end

section
/- cmp.Less on numbers. -/
set_option linter.all false
set_option maxRecDepth 20000
set_option maxHeartbeats 4000000
namespace Go.Proofs.Ytdfeoccjllljiaa
open Go.Ab Go.Sort

/-- cmp.Less compares two numbers. -/
def CmpO (lt : Int → Int → Bool) (Q : Int → Prop) (id : Nat) (H : Heap) : Prop :=
  ∀ (H' : Heap) (x y : Int) (Post : Value → Heap → Prop), Same (fun k => k = id) H H' → Q x → Q y →
    (∀ (H'' : Heap) (c : Bool), H' <+: H'' → c = lt x y → Post (.bool c) H'') → ACalls Try.prog 196 [.int .i64 x, .int .i64 y] H' Post
theorem CmpO.keep {lt : Int → Int → Bool} {Q : Int → Prop} {id : Nat} {H H' : Heap} (h : CmpO lt Q id H) (hs : Same (fun k => k = id) H H') : CmpO lt Q id H' :=
  fun H2 x y Post h2 => h H2 x y Post (hs.trans h2)
end Go.Proofs.Ytdfeoccjllljiaa
end

section
/- A loop whose end is told once: what is owed at the exit is shown from a state of one's own. No statement of the seat is proved here; it holds for every program. -/
set_option linter.all false
namespace Go.Ab
open Go.RowKit (Below)

/-- At the exit id another thing is owed. -/
def exitA (id : Nat) (K : Fr → Heap → Prop) (Q : Exit → Fr → Heap → Prop) : Exit → Fr → Heap → Prop
  | .normal => Q .normal
  | .exit i => fun fr H => (i = id ∧ K fr H) ∨ (i ≠ id ∧ Q (.exit i) fr H)
  | .goto l => Q (.goto l)
  | .ret => Q .ret
  | .panic c => Q (.panic c)
  | .outgrown => Q .outgrown
attribute [go_sem] exitA

section
variable {P : Program} {N : Nat} {H : Heap} {fr : Fr} {Q : Exit → Fr → Heap → Prop}

theorem Lift.weak {B : Nat} {w0 : World} {ρ : Rho} {e : Exit} {a : Act} {w : World} {Q Q' : Exit → Fr → Heap → Prop} (h : ∀ e fr H, Q e fr H → ∃ f0, upF H f0 fr ∧ Q' e f0 H) (hl : Lift B w0 N ρ Q e a w) : Lift B w0 N ρ Q' e a w := by
  obtain ⟨ρ', f, H, h1, h2, h3, h4⟩ := hl
  obtain ⟨f0, h5, h6⟩ := h e f H h4
  exact ⟨ρ', f0, H, h1, h2, FR.up h2 h5 h3, h6⟩

theorem AWp.weak {c : Code} {Q Q' : Exit → Fr → Heap → Prop} (h : ∀ e fr H, Q e fr H → ∃ f0, upF H f0 fr ∧ Q' e f0 H) (hw : AWp P N c Q fr H) : AWp P N c Q' fr H :=
  fun B w0 ρ w a hR hF => wp_mono (hw B w0 ρ w a hR hF) fun _ _ _ hl => Lift.weak h hl

theorem upF.refl (H : Heap) : ∀ fr : Fr, (∀ t v, (t, v) ∈ fr → Fr.get fr t = some v) → upF H fr fr := by
  intro fr h
  have key : ∀ l : Fr, (∀ p ∈ l, p ∈ fr) → upF H l fr := by
    intro l
    induction l with
    | nil => intro _; trivial
    | cons p l ih =>
      intro hl
      obtain ⟨t, v⟩ := p
      exact ⟨⟨v, h t v (hl _ List.mem_cons_self), Up.refl _ _⟩, ih fun q hq => hl q (List.mem_cons_of_mem _ hq)⟩
  exact key fr fun p hp => hp

end
end Go.Ab
end

section
/- Contracts of the laws' own helpers over lists of numbers. They hold for every program that holds these functions. -/
set_option linter.all false
namespace Go.Proofs.Ytdfeoccjllljiaa
open Go.Ab

theorem eqInt64S_ok {H : Heap} {u v : Value} {xs ys : List Int} (hu : IntsAt H u xs) (hv : IntsAt H v ys) (Post : Value → Heap → Prop) (h : Post (.bool (decide (xs = ys))) H) :
    ACalls Try.prog 42 [u, v] H Post := by
  obtain ⟨i, o, rfl, h1, h2⟩ := hu
  obtain ⟨j, q, rfl, h3, h4⟩ := hv
  refine acalls_vc (rs := [.tmp 4]) Try.func42 rfl rfl Try.ntmps42 rfl rfl ?_
  simp (maxSteps := 1000000) [go_sem]
  refine condK_intro (fun hne => ?_) (fun heq => ?_)
  · have : xs ≠ ys := by rintro rfl; simp at hne
    simpa [this] using h
  · have hlen : xs.length = ys.length := by simp at heq; omega
    refine AWp.loopVc (fun s : Nat => [(0, lv 1 i o xs.length), (1, lv 1 j q ys.length), (5, .int .i64 s)]) (fun s H' => H' = H ∧ s ≤ xs.length ∧ xs.take s = ys.take s) (fun s => xs.length - s) 0 ?_ ?_ ?_
    · simp [upF, Fr.get, Up.refl]
    · simp
    · rintro K s H' ⟨rfl, hs, ht⟩ hK
      simp (maxSteps := 1000000) [go_sem]
      refine condK_intro (fun hlt => ?_) (fun hge => ?_)
      · have hlt : s < xs.length := by simpa using hlt
        have c1 := h1.cell (k := s) (v := .int .i64 xs[s]) (by simp [ints_get, hlt])
        have c2 := h3.cell (k := s) (v := .int .i64 (ys[s]'(by omega))) (by simp [ints_get, hlen ▸ hlt])
        have hw : IntKind.i64.wrap ((s : Int) + 1) = (s : Int) + 1 := i64w (by omega) (by omega)
        refine AWp.draw mixed [(0, false), (1, false), (2, false), (3, false), (4, false), (5, false), (6, false), (7, false), (8, false)] (by kernel_rfl) ?_
        simp (maxSteps := 1000000) [go_sem, hlt, hlen ▸ hlt, c1, c2, hw]
        refine condK_intro (fun hne => ?_) (fun heq => ?_)
        · have : xs ≠ ys := by rintro rfl; simp at hne
          simpa [this] using h
        · refine hK (s + 1) _ _ (by omega) (by simp [upF, Fr.get, Up.refl]) ⟨rfl, by omega, ?_⟩
          have he : xs[s] = ys[s]'(by omega) := by simpa using heq
          rw [List.take_succ_eq_append_getElem hlt, List.take_succ_eq_append_getElem (by omega), ht, he]
      · have : s = xs.length := by simp at hge; omega
        subst this
        rw [List.take_length, hlen, List.take_length] at ht
        simpa [ht] using h

theorem heldInt64S_ok {H : Heap} {u : Value} {k : Int} {n : Nat} (hu : IntsAt H u (upFrom k n)) (hk0 : 0 ≤ k) (hk : k + n ≤ 9223372036854775807) (Post : Value → Heap → Prop) (h : Post (.int .i64 (k + n)) H) :
    ACalls Try.prog 45 [u, .int .i64 k] H Post := by
  obtain ⟨i, o, rfl, h1, h2⟩ := hu
  rw [upFrom_length] at *
  refine acalls_vc (rs := [.tmp 4]) Try.func45 rfl rfl Try.ntmps45 rfl rfl ?_
  simp (maxSteps := 1000000) [go_sem]
  refine AWp.loopVc (fun s : Nat => [(0, lv 1 i o n), (1, .int .i64 (k + s)), (5, .int .i64 s)]) (fun s H' => H' = H ∧ s ≤ n) (fun s => n - s) 0 ?_ ?_ ?_
  · simp [upF, Fr.get, Up.refl]
  · simp
  · rintro K s H' ⟨rfl, hs⟩ hK
    by_cases hlt : s < n
    · have c1 := h1.cell (k := s) (v := .int .i64 (k + s)) (by simp [ints_get, upFrom_get hlt])
      have hw : IntKind.i64.wrap ((s : Int) + 1) = (s : Int) + 1 := i64w (by omega) (by omega)
      have hw2 : IntKind.i64.wrap (k + s + 1) = k + s + 1 := i64w (by omega) (by omega)
      simp (maxSteps := 1000000) [go_sem, hlt, c1, hw, hw2]
      exact hK (s + 1) _ _ (by omega) (by simp [upF, Fr.get, Up.refl, Int.add_assoc]) ⟨rfl, by omega⟩
    · have : s = n := by omega
      subst this
      simp (maxSteps := 1000000) [go_sem]
      exact h

theorem set_same {H : Heap} {i : Nat} {b : Blk} (h : H[i]? = some b) : H.set i b = H := by
  apply List.ext_getElem?
  intro j
  by_cases e : i = j
  · subst e; rw [List.getElem?_set_self (List.getElem?_eq_some_iff.1 h).1, h]
  · rw [List.getElem?_set_ne e]

theorem setInts_get {H : Heap} {i j : Nat} {xs : List Int} (hj : j ≠ i) : (setInts H i xs)[j]? = H[j]? := by
  unfold setInts
  split
  · rfl
  · exact List.getElem?_set_ne (fun e => hj e.symm)

theorem markInt64S_ok {H : Heap} {i : Nat} {k : Int} {xs : List Int} (hu : xs = [] ∨ H[i]? = some ⟨ints xs, true, true⟩) (hl : xs.length ≤ 140737488355328) (hk0 : 0 ≤ k) (hk : k + xs.length ≤ 9223372036854775807) (Post : Value → Heap → Prop)
    (h : Post (.int .i64 (k + xs.length)) (setInts H i (upFrom k xs.length))) :
    ACalls Try.prog 44 [lv 1 i 0 xs.length, .int .i64 k] H Post := by
  refine acalls_vc (rs := [.tmp 4]) Try.func44 rfl rfl Try.ntmps44 rfl rfl ?_
  simp (maxSteps := 1000000) [go_sem]
  refine AWp.loopVc (fun s : Nat => [(0, lv 1 i 0 xs.length), (1, .int .i64 (k + s)), (5, .int .i64 s)]) (fun s H' => s ≤ xs.length ∧ ((xs = [] ∧ H' = H) ∨ (H[i]? = some ⟨ints xs, true, true⟩ ∧ H' = H.set i ⟨ints (upFrom k s ++ xs.drop s), true, true⟩))) (fun s => xs.length - s) 0 ?_ ?_ ?_
  · simp [upF, Fr.get, Up.refl]
  · refine ⟨by omega, ?_⟩
    rcases hu with hu | hu
    · exact .inl ⟨hu, rfl⟩
    · refine .inr ⟨hu, ?_⟩
      simp only [upFrom, List.range_zero, List.map_nil, List.nil_append, List.drop_zero]
      exact (set_same hu).symm
  · rintro K s H' ⟨hs, hH⟩ hK
    by_cases hlt : s < xs.length
    · rcases hH with ⟨rfl, _⟩ | ⟨hb, rfl⟩
      · simp at hlt
      · have hi : i < H.length := (List.getElem?_eq_some_iff.1 hb).1
        have hlen : (ints (upFrom k s ++ xs.drop s)).length = xs.length := by simp [ints_length, upFrom_length]; omega
        have hst : storeAt (H.set i ⟨ints (upFrom k s ++ xs.drop s), true, true⟩) i s [.int .i64 (k + s)] = some (H.set i ⟨ints (upFrom k (s + 1) ++ xs.drop (s + 1)), true, true⟩) := by
          rw [storeAt_of (b := ⟨ints (upFrom k s ++ xs.drop s), true, true⟩) (by simp [hi]) rfl rfl (by show s + 1 ≤ (ints _).length; omega) (by simp [Value.oneCell'])]
          rw [over_one (by show s < (ints _).length; omega), ints_set, List.set_set]
          congr 4
          rw [List.set_append_right _ _ (by rw [upFrom_length]; omega), upFrom_length, Nat.sub_self, List.drop_eq_getElem_cons hlt, List.set_cons_zero, ← upFrom_append k s 1]
          simp [upFrom]
        have hw : IntKind.i64.wrap ((s : Int) + 1) = (s : Int) + 1 := i64w (by omega) (by omega)
        have hw2 : IntKind.i64.wrap (k + s + 1) = k + s + 1 := i64w (by omega) (by omega)
        simp (maxSteps := 1000000) [go_sem, hlt, hst, hw, hw2]
        exact hK (s + 1) _ _ (by omega) (by simp [upF, Fr.get, Up.refl, Int.add_assoc]) ⟨by omega, .inr ⟨hb, rfl⟩⟩
    · have : s = xs.length := by omega
      subst this
      simp (maxSteps := 1000000) [go_sem]
      have e : H' = setInts H i (upFrom k xs.length) := by
        unfold setInts
        rcases hH with ⟨rfl, rfl⟩ | ⟨hb, rfl⟩
        · simp [upFrom]
        · by_cases h0 : xs = []
          · subst h0
            simp only [upFrom, List.length_nil, List.range_zero, List.map_nil, if_true, List.nil_append, List.drop_nil]
            exact set_same hb
          · rw [if_neg (by intro e; have := congrArg List.length e; rw [upFrom_length] at this; exact h0 (List.eq_nil_of_length_eq_zero this))]
            simp
      rw [e]; exact h

theorem heldInt64SS_ok {H : Heap} {u : Value} {k : Int} {xss : List (List Int)} (hu : IntssAt H u (marked k xss)) (hk0 : 0 ≤ k) (hk : k + xss.flatten.length ≤ 9223372036854775807) (Post : Value → Heap → Prop) (h : Post (.int .i64 (k + xss.flatten.length)) H) :
    ACalls Try.prog 111 [u, .int .i64 k] H Post := by
  obtain ⟨i, o, vs, rfl, hvl, h1, h2, h3⟩ := hu
  rw [marked_length] at *
  refine acalls_vc (rs := [.tmp 4]) Try.func111 rfl rfl Try.ntmps111 rfl rfl ?_
  simp (maxSteps := 1000000) [go_sem]
  refine AWp.loopVc (fun s : Nat => [(0, lv 1 i o xss.length), (1, .int .i64 (k + off xss s)), (5, .int .i64 s)]) (fun s H' => H' = H ∧ s ≤ xss.length) (fun s => xss.length - s) 0 ?_ ?_ ?_
  · simp [upF, Fr.get, Up.refl, off]
  · simp
  · rintro K s H' ⟨rfl, hs⟩ hK
    by_cases hlt : s < xss.length
    · have c1 := h1.cell (k := s) (v := vs[s]'(by omega)) (List.getElem?_eq_getElem _)
      have hx : xss[s]? = some xss[s] := List.getElem?_eq_getElem hlt
      have hu := h2 s _ (upFrom (k + (off xss s : Int)) xss[s].length) (List.getElem?_eq_getElem (by omega)) (by rw [marked_get, hx]; rfl)
      have hle := off_le' hx
      have hoff := off_succ hx
      have hw : IntKind.i64.wrap ((s : Int) + 1) = (s : Int) + 1 := i64w (by omega) (by omega)
      simp (maxSteps := 1000000) [go_sem, hlt, c1, hw]
      refine heldInt64S_ok hu (by omega) (by omega) _ ?_
      have hn : decide (k + (off xss s : Int) + (xss[s].length : Int) < 0) = false := by simp; omega
      simp (maxSteps := 1000000) [go_sem, hlt, c1, hw, hn]
      exact hK (s + 1) _ _ (by omega) (by simp [upF, Fr.get, Up.refl, hoff, Int.add_assoc]) ⟨rfl, by omega⟩
    · have : s = xss.length := by omega
      subst this
      simp (maxSteps := 1000000) [go_sem]
      rw [off_all]
      exact h

theorem eqInt64SS_ok {H : Heap} {u v : Value} {xs ys : List (List Int)} (hu : IntssAt H u xs) (hv : IntssAt H v ys) (Post : Value → Heap → Prop) (h : Post (.bool (decide (xs = ys))) H) :
    ACalls Try.prog 39 [u, v] H Post := by
  obtain ⟨i, o, us, rfl, hul, h1, hu, h2⟩ := hu
  obtain ⟨j, q, vs, rfl, hvl, h3, hv, h4⟩ := hv
  refine acalls_vc (rs := [.tmp 4]) Try.func39 rfl rfl Try.ntmps39 rfl rfl ?_
  simp (maxSteps := 1000000) [go_sem]
  refine condK_intro (fun hne => ?_) (fun heq => ?_)
  · have : xs ≠ ys := by rintro rfl; simp at hne
    simpa [this] using h
  · have hlen : xs.length = ys.length := by simp at heq; omega
    refine AWp.loopVc (fun s : Nat => [(0, lv 1 i o xs.length), (1, lv 1 j q ys.length), (5, .int .i64 s)]) (fun s H' => H' = H ∧ s ≤ xs.length ∧ xs.take s = ys.take s) (fun s => xs.length - s) 0 ?_ ?_ ?_
    · simp [upF, Fr.get, Up.refl]
    · simp
    · rintro K s H' ⟨rfl, hs, ht⟩ hK
      simp (maxSteps := 1000000) [go_sem]
      refine condK_intro (fun hlt => ?_) (fun hge => ?_)
      · have hlt : s < xs.length := by simpa using hlt
        have c1 := h1.cell (k := s) (v := us[s]'(by omega)) (List.getElem?_eq_getElem _)
        have c2 := h3.cell (k := s) (v := vs[s]'(by omega)) (List.getElem?_eq_getElem _)
        have d1 := hu s _ xs[s] (List.getElem?_eq_getElem (by omega)) (List.getElem?_eq_getElem _)
        have d2 := hv s _ (ys[s]'(by omega)) (List.getElem?_eq_getElem (by omega)) (List.getElem?_eq_getElem _)
        have hw : IntKind.i64.wrap ((s : Int) + 1) = (s : Int) + 1 := i64w (by omega) (by omega)
        refine AWp.draw mixed [(0, false), (1, false), (2, false), (3, false), (4, false), (5, false), (6, false), (7, false), (8, false), (9, false)] (by kernel_rfl) ?_
        simp (maxSteps := 1000000) [go_sem, hlt, hlen ▸ hlt, c1, c2, hw]
        refine eqInt64S_ok d1 d2 _ ?_
        simp (maxSteps := 1000000) [go_sem, hlt, hlen ▸ hlt, c1, c2, hw]
        refine condK_intro (fun hne => ?_) (fun heq => ?_)
        · have : xs ≠ ys := by rintro rfl; simp at hne
          simpa [this] using h
        · refine hK (s + 1) _ _ (by omega) (by simp [upF, Fr.get, Up.refl]) ⟨rfl, by omega, ?_⟩
          have he : xs[s] = ys[s]'(by omega) := by simpa using heq
          rw [List.take_succ_eq_append_getElem hlt, List.take_succ_eq_append_getElem (by omega), ht, he]
      · have : s = xs.length := by simp at hge; omega
        subst this
        rw [List.take_length, hlen, List.take_length] at ht
        simpa [ht] using h

theorem markInt64SS_ok {H : Heap} {u : Value} {k : Int} {rows : List (Nat × List Int)} (hu : OwnRows H u rows) (hk0 : 0 ≤ k) (hk : k + (rows.map (·.2)).flatten.length ≤ 9223372036854775807) (Post : Value → Heap → Prop)
    (h : ∀ H', H'.length = H.length → Same (fun j => ∃ r ∈ rows, r.2 ≠ [] ∧ r.1 = j) H H' → IntssAt H' u (marked k (rows.map (·.2))) → Post (.int .i64 (k + (rows.map (·.2)).flatten.length)) H') :
    ACalls Try.prog 43 [u, .int .i64 k] H Post := by
  obtain ⟨id, rfl, hat, ⟨hrows, hnd⟩, hid, hl, hls⟩ := hu
  refine acalls_vc (rs := [.tmp 4]) Try.func43 rfl rfl Try.ntmps43 rfl rfl ?_
  simp (maxSteps := 1000000) [go_sem]
  generalize hxss : rows.map (·.2) = xss at *
  have hxl : xss.length = rows.length := by simp [← hxss]
  have hx : ∀ {s : Nat} {r : Nat × List Int}, rows[s]? = some r → xss[s]? = some r.2 := fun {s r} hr => by simp [← hxss, hr]
  refine AWp.loopVc (fun s : Nat => [(0, lv 1 id 0 rows.length), (1, .int .i64 (k + off xss s)), (5, .int .i64 s)])
    (fun s H' => s ≤ rows.length ∧ H'.length = H.length ∧ Same (fun j => ∃ r ∈ rows, r.2 ≠ [] ∧ r.1 = j) H H' ∧ ∀ (a : Nat) (r : Nat × List Int), rows[a]? = some r → r.2 ≠ [] → H'[r.1]? = some ⟨ints (if a < s then upFrom (k + off xss a) r.2.length else r.2), true, true⟩) (fun s => rows.length - s) 0 ?_ ?_ ?_
  · simp [upF, Fr.get, Up.refl, off]
  · refine ⟨by omega, rfl, Same.refl _ _, fun a r hr hne => ?_⟩
    rw [if_neg (by omega)]
    exact (hrows r (List.mem_of_getElem? hr)).resolve_left hne
  · rintro K s H' ⟨hs, hlen, hsame, hcont⟩ hK
    have houter : At H' id 0 (rows.map rowVal) := by
      rcases hat with h0 | h0
      · exact .inl h0
      · right
        obtain ⟨b, hb, hbl, hbn, he⟩ := cellsAt_inv h0
        have : H'[id]? = some b := hsame.get hb (by rintro ⟨r, hr, hne, he⟩; exact hid r hr hne he)
        rw [cellsAt_of this hbl hbn, ← he]
    by_cases hlt : s < rows.length
    · have hr : rows[s]? = some rows[s] := List.getElem?_eq_getElem hlt
      have c1 := houter.cell (k := s) (v := rowVal rows[s]) (by simp [hr])
      have hw : IntKind.i64.wrap ((s : Int) + 1) = (s : Int) + 1 := i64w (by omega) (by omega)
      have hle := off_le' (hx hr)
      have hoff := off_succ (hx hr)
      have hmem := List.mem_of_getElem? hr
      simp only [rowVal, Nat.zero_add] at c1
      simp (maxSteps := 1000000) [go_sem, hlt, c1, hw]
      refine markInt64S_ok (xs := rows[s].2) ?_ (hls _ hmem) (by omega) (by omega) _ ?_
      · by_cases h0 : rows[s].2 = []
        · exact .inl h0
        · right
          have := hcont s _ hr h0
          rwa [if_neg (by omega)] at this
      simp (maxSteps := 1000000) [go_sem, hlt, c1, hw]
      refine hK (s + 1) _ _ (by omega) (by simp [upF, Fr.get, Up.refl, hoff, Int.add_assoc]) ⟨by omega, ?_, ?_, ?_⟩
      · unfold setInts; split <;> simp [hlen]
      · refine hsame.trans ⟨by unfold setInts; split <;> simp, fun j hj hjs => ?_⟩
        by_cases h0 : rows[s].2 = []
        · simp [setInts, upFrom, h0]
        · exact setInts_get (fun e => hjs ⟨_, hmem, h0, e.symm⟩)
      · intro a r ha hne
        by_cases has : a = s
        · subst has
          rw [hr] at ha; cases ha
          rw [if_pos (by omega)]
          have hlt' : rows[a].1 < H'.length := (List.getElem?_eq_some_iff.1 (hcont a _ hr hne)).1
          rw [setInts, if_neg (by intro e; have := congrArg List.length e; rw [upFrom_length] at this; exact hne (List.eq_nil_of_length_eq_zero this)), List.getElem?_set_self hlt']
        · have e1 : (setInts H' rows[s].1 (upFrom (k + (off xss s : Int)) rows[s].2.length))[r.1]? = H'[r.1]? := by
            by_cases h0 : rows[s].2 = []
            · simp [setInts, upFrom, h0]
            · exact setInts_get (fun e => hnd a s r rows[s] ha hr has hne h0 e)
          rw [e1, hcont a r ha hne]
          by_cases h1 : a < s
          · rw [if_pos h1, if_pos (by omega)]
          · rw [if_neg h1, if_neg (by omega)]
    · have : s = rows.length := by omega
      subst this
      simp (maxSteps := 1000000) [go_sem]
      rw [← hxl, off_all]
      refine h H' hlen hsame ⟨id, 0, rows.map rowVal, by rw [marked_length, hxl], by rw [marked_length, hxl]; simp, houter, ?_, by rw [marked_length, hxl]; exact hl⟩
      intro a v xs hv hxs
      rw [marked_get, ← hxss] at hxs
      simp only [List.getElem?_map, Option.map_map, Option.map_eq_some_iff] at hv hxs
      obtain ⟨r, hr, rfl⟩ := hv
      obtain ⟨r', hr', rfl⟩ := hxs
      rw [hr] at hr'; cases hr'
      have hm := List.mem_of_getElem? hr
      refine ⟨r.1, 0, by simp [rowVal, upFrom_length], ?_, by simp [upFrom_length]; exact hls r hm⟩
      by_cases h0 : r.2 = []
      · left; simp [h0, upFrom, ints]
      · have := hcont a r hr h0
        rw [if_pos (List.getElem?_eq_some_iff.1 hr).1] at this
        refine Holds.at ⟨true, ?_⟩
        simp only [Function.comp, hxss]
        exact this

end Go.Proofs.Ytdfeoccjllljiaa
end

section
/- SquareOf, of the program and of the specification: what each computes. They hold for every number. -/
set_option linter.all false
set_option maxRecDepth 20000
namespace Go.Proofs.Ytdfeoccjllljiaa
open Go.Ab

theorem within_ok {H : Heap} {n lo hi : Int} (Post : Value → Heap → Prop) (h : Post (.bool (decide (lo ≤ n) && decide (n ≤ hi))) H) :
    ACalls Try.prog 93 [.int .i64 n, .int .i64 lo, .int .i64 hi] H Post := by
  refine acalls_vc (rs := [.tmp 6]) Try.func93 rfl rfl Try.ntmps93 rfl rfl ?_
  simp (maxSteps := 1000000) [go_sem]
  refine condK_intro (fun h1 => ?_) (fun h1 => ?_) <;> simp_all

end Go.Proofs.Ytdfeoccjllljiaa
end

section
/- Systems in plain terms: what is a good block, what comes before, what fits. No program is in sight here. -/
set_option linter.all false
namespace Go.Ab

def good (v : Int) (b : Bk) : Bool := decide (0 ≤ b.a) && decide (b.a < b.b) && decide (b.b < b.c) && decide (b.c < v)
def before (x y : Bk) : Bool := if x.a ≠ y.a then decide (x.a < y.a) else if x.b ≠ y.b then decide (x.b < y.b) else decide (x.c < y.c)
def eq01 (x y : Int) : Nat := if x = y then 1 else 0
def common (x y : Bk) : Nat := eq01 x.a y.a + eq01 x.a y.b + eq01 x.a y.c + (eq01 x.b y.a + eq01 x.b y.b + eq01 x.b y.c) + (eq01 x.c y.a + eq01 x.c y.b + eq01 x.c y.c)
/-- The first n blocks fit, each with those ahead of it. -/
def Fits (bs : List Bk) : Prop := ∀ (i k : Nat) (x y : Bk), k < i → bs[i]? = some x → bs[k]? = some y → common x y ≤ 1
/-- Each block is good and comes behind the one ahead of it. -/
def Sorted (v : Int) (bs : List Bk) : Prop := ∀ (i : Nat) (x : Bk), bs[i]? = some x → good v x = true ∧ ∀ y, 0 < i → bs[i - 1]? = some y → before y x = true
def IsSys (p : Int) (bs : List Bk) : Prop := (3 ≤ p ∧ p ≤ 15) ∧ bs.length ≤ 35 ∧ Sorted p bs ∧ Fits bs

/-- A list is strictly ascending, from 0 to below n. -/
def Rises (n : Int) (xs : List Int) : Prop := ∀ (a : Nat) (x : Int), xs[a]? = some x → (0 ≤ x ∧ x < n) ∧ ∀ y, 0 < a → xs[a - 1]? = some y → y < x

theorem rises_block (v : Int) (b : Bk) : Rises v [b.a, b.b, b.c] ↔ good v b = true := by
  simp only [good, Bool.and_eq_true, decide_eq_true_eq]
  constructor
  · intro h
    have h0 := h 0 b.a rfl
    have h1 := h 1 b.b rfl
    have h2 := h 2 b.c rfl
    have := h1.2 b.a (by omega) rfl
    have := h2.2 b.b (by omega) rfl
    omega
  · intro h a x hx
    match a, hx with
    | 0, hx => simp at hx; subst hx; exact ⟨by omega, by omega⟩
    | 1, hx => simp at hx; subst hx; exact ⟨by omega, fun y _ hy => by simp at hy; omega⟩
    | 2, hx => simp at hx; subst hx; exact ⟨by omega, fun y _ hy => by simp at hy; omega⟩
    | a + 3, hx => simp at hx

/-- How two lists compare. -/
def lexC : List Int → List Int → Int
  | [], [] => 0
  | [], _ :: _ => -1
  | _ :: _, [] => 1
  | x :: xs, y :: ys => if x < y then -1 else if y < x then 1 else lexC xs ys

end Go.Ab
end
