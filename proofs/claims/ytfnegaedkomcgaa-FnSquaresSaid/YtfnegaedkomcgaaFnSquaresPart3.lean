/- Part 3 of what the proof of the law FnSquares rests on: contracts of functions of the program, for every argument that each names; no statement of the seat is proved here. -/
import Derived.Test.YtfnegaedkomcgaaProg
import Derived.KernelRfl
import Derived.Test.YtfnegaedkomcgaaRows
import Derived.Test.YtfnegaedkomcgaaFnSquaresPart2

section
/- For each type of the translation: what the logic asks of it, as the kernel reckons it. -/
set_option linter.all false
namespace Go.Proofs.Ytfnegaedkomcgaa
open Go.Ab

theorem ti2 : ti Try.prog 2 = some ⟨.int .i64, 1, 8, (.int .i64 0)⟩ := by kernel_rfl
theorem zok2 : zeroOK Try.prog 2 = true := by kernel_rfl
theorem ti3 : ti Try.prog 3 = some ⟨.int .i64, 1, 8, (.int .i64 0)⟩ := by kernel_rfl
theorem zok3 : zeroOK Try.prog 3 = true := by kernel_rfl
theorem ti4 : ti Try.prog 4 = some ⟨.bool, 1, 1, (.bool false)⟩ := by kernel_rfl
theorem zok4 : zeroOK Try.prog 4 = true := by kernel_rfl
theorem ti5 : ti Try.prog 5 = some ⟨.int .u8, 1, 1, (.int .u8 0)⟩ := by kernel_rfl
theorem zok5 : zeroOK Try.prog 5 = true := by kernel_rfl
theorem ti6 : ti Try.prog 6 = some ⟨.int .u8, 1, 1, (.int .u8 0)⟩ := by kernel_rfl
theorem zok6 : zeroOK Try.prog 6 = true := by kernel_rfl
theorem ti7 : ti Try.prog 7 = some ⟨.struct (Try.prog.fieldsOf 7), 4, 24, (.agg #[(.int .i64 0), (.int .i64 0), (.bool false), (.int .u8 0)])⟩ := by kernel_rfl
theorem zok7 : zeroOK Try.prog 7 = true := by kernel_rfl
theorem ti8 : ti Try.prog 8 = some ⟨.struct (Try.prog.fieldsOf 8), 4, 24, (.agg #[(.int .i64 0), (.int .i64 0), (.bool false), (.int .u8 0)])⟩ := by kernel_rfl
theorem zok8 : zeroOK Try.prog 8 = true := by kernel_rfl
theorem ti9 : ti Try.prog 9 = some ⟨.string, 1, 16, (.string ⟨#[]⟩)⟩ := by kernel_rfl
theorem zok9 : zeroOK Try.prog 9 = true := by kernel_rfl
theorem ti10 : ti Try.prog 10 = some ⟨.string, 1, 16, (.string ⟨#[]⟩)⟩ := by kernel_rfl
theorem zok10 : zeroOK Try.prog 10 = true := by kernel_rfl
theorem ti11 : ti Try.prog 11 = some ⟨.string, 1, 16, (.string ⟨#[]⟩)⟩ := by kernel_rfl
theorem zok11 : zeroOK Try.prog 11 = true := by kernel_rfl
theorem ti12 : ti Try.prog 12 = some ⟨.int .u64, 1, 8, (.int .u64 0)⟩ := by kernel_rfl
theorem zok12 : zeroOK Try.prog 12 = true := by kernel_rfl
theorem ti13 : ti Try.prog 13 = some ⟨.struct (Try.prog.fieldsOf 13), 2, 24, (.agg #[(.string ⟨#[]⟩), (.int .u64 0)])⟩ := by kernel_rfl
theorem zok13 : zeroOK Try.prog 13 = true := by kernel_rfl
theorem ti14 : ti Try.prog 14 = some ⟨.struct (Try.prog.fieldsOf 14), 2, 24, (.agg #[(.string ⟨#[]⟩), (.int .u64 0)])⟩ := by kernel_rfl
theorem zok14 : zeroOK Try.prog 14 = true := by kernel_rfl
theorem ti15 : ti Try.prog 15 = some ⟨.pointer 132, 1, 8, (.pointer none)⟩ := by kernel_rfl
theorem zok15 : zeroOK Try.prog 15 = true := by kernel_rfl
theorem ti16 : ti Try.prog 16 = some ⟨.pointer 135, 1, 8, (.pointer none)⟩ := by kernel_rfl
theorem zok16 : zeroOK Try.prog 16 = true := by kernel_rfl
theorem ti17 : ti Try.prog 17 = some ⟨.pointer 144, 1, 8, (.pointer none)⟩ := by kernel_rfl
theorem zok17 : zeroOK Try.prog 17 = true := by kernel_rfl
theorem ti18 : ti Try.prog 18 = some ⟨.struct (Try.prog.fieldsOf 18), 1, 8, (.agg #[(.pointer none)])⟩ := by kernel_rfl
theorem zok18 : zeroOK Try.prog 18 = true := by kernel_rfl
theorem ti19 : ti Try.prog 19 = some ⟨.struct (Try.prog.fieldsOf 19), 1, 8, (.agg #[(.pointer none)])⟩ := by kernel_rfl
theorem zok19 : zeroOK Try.prog 19 = true := by kernel_rfl
theorem ti21 : ti Try.prog 21 = some ⟨.int .i32, 1, 4, (.int .i32 0)⟩ := by kernel_rfl
theorem zok21 : zeroOK Try.prog 21 = true := by kernel_rfl
theorem ti22 : ti Try.prog 22 = some ⟨.slice 5, 1, 24, (.slice none 0 0)⟩ := by kernel_rfl
theorem zok22 : zeroOK Try.prog 22 = true := by kernel_rfl
theorem ti24 : ti Try.prog 24 = some ⟨.slice 33, 1, 24, (.slice none 0 0)⟩ := by kernel_rfl
theorem zok24 : zeroOK Try.prog 24 = true := by kernel_rfl
theorem ti26 : ti Try.prog 26 = some ⟨.slice 50, 1, 24, (.slice none 0 0)⟩ := by kernel_rfl
theorem zok26 : zeroOK Try.prog 26 = true := by kernel_rfl
theorem ti27 : ti Try.prog 27 = some ⟨.struct (Try.prog.fieldsOf 27), 2, 32, (.agg #[(.int .i64 0), (.slice none 0 0)])⟩ := by kernel_rfl
theorem zok27 : zeroOK Try.prog 27 = true := by kernel_rfl
theorem ti28 : ti Try.prog 28 = some ⟨.struct (Try.prog.fieldsOf 28), 2, 32, (.agg #[(.int .i64 0), (.slice none 0 0)])⟩ := by kernel_rfl
theorem zok28 : zeroOK Try.prog 28 = true := by kernel_rfl
theorem ti33 : ti Try.prog 33 = some ⟨.slice 2, 1, 24, (.slice none 0 0)⟩ := by kernel_rfl
theorem zok33 : zeroOK Try.prog 33 = true := by kernel_rfl
theorem ti44 : ti Try.prog 44 = some ⟨.pointer 67, 1, 8, (.pointer none)⟩ := by kernel_rfl
theorem zok44 : zeroOK Try.prog 44 = true := by kernel_rfl
theorem ti49 : ti Try.prog 49 = some ⟨.array 3 2, 3, 24, (.agg #[(.int .i64 0), (.int .i64 0), (.int .i64 0)])⟩ := by kernel_rfl
theorem zok49 : zeroOK Try.prog 49 = true := by kernel_rfl
theorem ti50 : ti Try.prog 50 = some ⟨.array 3 2, 3, 24, (.agg #[(.int .i64 0), (.int .i64 0), (.int .i64 0)])⟩ := by kernel_rfl
theorem zok50 : zeroOK Try.prog 50 = true := by kernel_rfl
theorem ti65 : ti Try.prog 65 = some ⟨.int .u64, 1, 8, (.int .u64 0)⟩ := by kernel_rfl
theorem zok65 : zeroOK Try.prog 65 = true := by kernel_rfl
theorem ti66 : ti Try.prog 66 = some ⟨.struct (Try.prog.fieldsOf 66), 3, 40, (.agg #[(.slice none 0 0), (.int .i64 0), (.int .u64 0)])⟩ := by kernel_rfl
theorem zok66 : zeroOK Try.prog 66 = true := by kernel_rfl
theorem ti67 : ti Try.prog 67 = some ⟨.struct (Try.prog.fieldsOf 67), 3, 40, (.agg #[(.slice none 0 0), (.int .i64 0), (.int .u64 0)])⟩ := by kernel_rfl
theorem zok67 : zeroOK Try.prog 67 = true := by kernel_rfl
theorem ti72 : ti Try.prog 72 = some ⟨.int .u64, 1, 8, (.int .u64 0)⟩ := by kernel_rfl
theorem zok72 : zeroOK Try.prog 72 = true := by kernel_rfl
theorem ti83 : ti Try.prog 83 = some ⟨.pointer 112, 1, 8, (.pointer none)⟩ := by kernel_rfl
theorem zok83 : zeroOK Try.prog 83 = true := by kernel_rfl
theorem ti96 : ti Try.prog 96 = some ⟨.int .i64, 1, 8, (.int .i64 0)⟩ := by kernel_rfl
theorem zok96 : zeroOK Try.prog 96 = true := by kernel_rfl
theorem ti105 : ti Try.prog 105 = some ⟨.int .u32, 1, 4, (.int .u32 0)⟩ := by kernel_rfl
theorem zok105 : zeroOK Try.prog 105 = true := by kernel_rfl
theorem ti110 : ti Try.prog 110 = some ⟨.array 15 2, 15, 120, (.agg (Array.replicate 15 (.int .i64 0)))⟩ := by kernel_rfl
theorem zok110 : zeroOK Try.prog 110 = true := by kernel_rfl
theorem ti111 : ti Try.prog 111 = some ⟨.array 15 110, 225, 1800, (.agg (Array.replicate 225 (.int .i64 0)))⟩ := by kernel_rfl
theorem zok111 : zeroOK Try.prog 111 = true := by kernel_rfl
theorem ti112 : ti Try.prog 112 = some ⟨.array 15 110, 225, 1800, (.agg (Array.replicate 225 (.int .i64 0)))⟩ := by kernel_rfl
theorem zok112 : zeroOK Try.prog 112 = true := by kernel_rfl
theorem ti113 : ti Try.prog 113 = some ⟨.int .u64, 1, 8, (.int .u64 0)⟩ := by kernel_rfl
theorem zok113 : zeroOK Try.prog 113 = true := by kernel_rfl
theorem ti117 : ti Try.prog 117 = some ⟨.pointer 3, 1, 8, (.pointer none)⟩ := by kernel_rfl
theorem zok117 : zeroOK Try.prog 117 = true := by kernel_rfl
theorem ti124 : ti Try.prog 124 = some ⟨.pointer 113, 1, 8, (.pointer none)⟩ := by kernel_rfl
theorem zok124 : zeroOK Try.prog 124 = true := by kernel_rfl
theorem ti131 : ti Try.prog 131 = some ⟨.struct (Try.prog.fieldsOf 131), 4, 40, (.agg #[(.pointer none), (.pointer none), (.pointer none), (.string ⟨#[]⟩)])⟩ := by kernel_rfl
theorem zok131 : zeroOK Try.prog 131 = true := by kernel_rfl
theorem ti132 : ti Try.prog 132 = some ⟨.struct (Try.prog.fieldsOf 132), 4, 40, (.agg #[(.pointer none), (.pointer none), (.pointer none), (.string ⟨#[]⟩)])⟩ := by kernel_rfl
theorem zok132 : zeroOK Try.prog 132 = true := by kernel_rfl
theorem ti133 : ti Try.prog 133 = some ⟨.array 0 16, 0, 0, (.agg #[])⟩ := by kernel_rfl
theorem zok133 : zeroOK Try.prog 133 = true := by kernel_rfl
theorem ti134 : ti Try.prog 134 = some ⟨.struct (Try.prog.fieldsOf 134), 0, 0, (.agg #[])⟩ := by kernel_rfl
theorem zok134 : zeroOK Try.prog 134 = true := by kernel_rfl
theorem ti135 : ti Try.prog 135 = some ⟨.struct (Try.prog.fieldsOf 135), 0, 0, (.agg #[])⟩ := by kernel_rfl
theorem zok135 : zeroOK Try.prog 135 = true := by kernel_rfl
theorem ti137 : ti Try.prog 137 = some ⟨.int .u8, 1, 1, (.int .u8 0)⟩ := by kernel_rfl
theorem zok137 : zeroOK Try.prog 137 = true := by kernel_rfl
theorem ti138 : ti Try.prog 138 = some ⟨.int .u8, 1, 1, (.int .u8 0)⟩ := by kernel_rfl
theorem zok138 : zeroOK Try.prog 138 = true := by kernel_rfl
theorem ti140 : ti Try.prog 140 = some ⟨.pointer 5, 1, 8, (.pointer none)⟩ := by kernel_rfl
theorem zok140 : zeroOK Try.prog 140 = true := by kernel_rfl
theorem ti141 : ti Try.prog 141 = some ⟨.int .i32, 1, 4, (.int .i32 0)⟩ := by kernel_rfl
theorem zok141 : zeroOK Try.prog 141 = true := by kernel_rfl
theorem ti142 : ti Try.prog 142 = some ⟨.int .i32, 1, 4, (.int .i32 0)⟩ := by kernel_rfl
theorem zok142 : zeroOK Try.prog 142 = true := by kernel_rfl
theorem ti143 : ti Try.prog 143 = some ⟨.struct (Try.prog.fieldsOf 143), 11, 48, (.agg #[(.int .u64 0), (.int .u64 0), (.int .u32 0), (.int .u8 0), (.int .u8 0), (.int .u8 0), (.int .u8 0), .nilFunc, (.pointer none), (.int .i32 0), (.int .i32 0)])⟩ := by kernel_rfl
theorem zok143 : zeroOK Try.prog 143 = true := by kernel_rfl
theorem ti144 : ti Try.prog 144 = some ⟨.struct (Try.prog.fieldsOf 144), 11, 48, (.agg #[(.int .u64 0), (.int .u64 0), (.int .u32 0), (.int .u8 0), (.int .u8 0), (.int .u8 0), (.int .u8 0), .nilFunc, (.pointer none), (.int .i32 0), (.int .i32 0)])⟩ := by kernel_rfl
theorem zok144 : zeroOK Try.prog 144 = true := by kernel_rfl
theorem bt7_  : Try.prog.built 7 [] = some #[(.int .i64 0), (.int .i64 0), (.bool false), (.int .u8 0)] := by kernel_rfl
theorem bt7_0 (x0 : Int) : Try.prog.built 7 [(0, (.int .i64 x0))] = some #[(.int .i64 x0), (.int .i64 0), (.bool false), (.int .u8 0)] := by kernel_rfl
theorem bt7_1 (x1 : Int) : Try.prog.built 7 [(1, (.int .i64 x1))] = some #[(.int .i64 0), (.int .i64 x1), (.bool false), (.int .u8 0)] := by kernel_rfl
theorem bt7_2 (x2 : Bool) : Try.prog.built 7 [(2, (.bool x2))] = some #[(.int .i64 0), (.int .i64 0), (.bool x2), (.int .u8 0)] := by kernel_rfl
theorem bt7_3 (x3 : Int) : Try.prog.built 7 [(3, (.int .u8 x3))] = some #[(.int .i64 0), (.int .i64 0), (.bool false), (.int .u8 x3)] := by kernel_rfl
theorem bt7_01 (x0 : Int) (x1 : Int) : Try.prog.built 7 [(0, (.int .i64 x0)), (1, (.int .i64 x1))] = some #[(.int .i64 x0), (.int .i64 x1), (.bool false), (.int .u8 0)] := by kernel_rfl
theorem bt7_02 (x0 : Int) (x2 : Bool) : Try.prog.built 7 [(0, (.int .i64 x0)), (2, (.bool x2))] = some #[(.int .i64 x0), (.int .i64 0), (.bool x2), (.int .u8 0)] := by kernel_rfl
theorem bt7_03 (x0 : Int) (x3 : Int) : Try.prog.built 7 [(0, (.int .i64 x0)), (3, (.int .u8 x3))] = some #[(.int .i64 x0), (.int .i64 0), (.bool false), (.int .u8 x3)] := by kernel_rfl
theorem bt7_12 (x1 : Int) (x2 : Bool) : Try.prog.built 7 [(1, (.int .i64 x1)), (2, (.bool x2))] = some #[(.int .i64 0), (.int .i64 x1), (.bool x2), (.int .u8 0)] := by kernel_rfl
theorem bt7_13 (x1 : Int) (x3 : Int) : Try.prog.built 7 [(1, (.int .i64 x1)), (3, (.int .u8 x3))] = some #[(.int .i64 0), (.int .i64 x1), (.bool false), (.int .u8 x3)] := by kernel_rfl
theorem bt7_23 (x2 : Bool) (x3 : Int) : Try.prog.built 7 [(2, (.bool x2)), (3, (.int .u8 x3))] = some #[(.int .i64 0), (.int .i64 0), (.bool x2), (.int .u8 x3)] := by kernel_rfl
theorem bt7_012 (x0 : Int) (x1 : Int) (x2 : Bool) : Try.prog.built 7 [(0, (.int .i64 x0)), (1, (.int .i64 x1)), (2, (.bool x2))] = some #[(.int .i64 x0), (.int .i64 x1), (.bool x2), (.int .u8 0)] := by kernel_rfl
theorem bt7_013 (x0 : Int) (x1 : Int) (x3 : Int) : Try.prog.built 7 [(0, (.int .i64 x0)), (1, (.int .i64 x1)), (3, (.int .u8 x3))] = some #[(.int .i64 x0), (.int .i64 x1), (.bool false), (.int .u8 x3)] := by kernel_rfl
theorem bt7_023 (x0 : Int) (x2 : Bool) (x3 : Int) : Try.prog.built 7 [(0, (.int .i64 x0)), (2, (.bool x2)), (3, (.int .u8 x3))] = some #[(.int .i64 x0), (.int .i64 0), (.bool x2), (.int .u8 x3)] := by kernel_rfl
theorem bt7_123 (x1 : Int) (x2 : Bool) (x3 : Int) : Try.prog.built 7 [(1, (.int .i64 x1)), (2, (.bool x2)), (3, (.int .u8 x3))] = some #[(.int .i64 0), (.int .i64 x1), (.bool x2), (.int .u8 x3)] := by kernel_rfl
theorem bt7_0123 (x0 : Int) (x1 : Int) (x2 : Bool) (x3 : Int) : Try.prog.built 7 [(0, (.int .i64 x0)), (1, (.int .i64 x1)), (2, (.bool x2)), (3, (.int .u8 x3))] = some #[(.int .i64 x0), (.int .i64 x1), (.bool x2), (.int .u8 x3)] := by kernel_rfl
theorem bt8_  : Try.prog.built 8 [] = some #[(.int .i64 0), (.int .i64 0), (.bool false), (.int .u8 0)] := by kernel_rfl
theorem bt8_0 (x0 : Int) : Try.prog.built 8 [(0, (.int .i64 x0))] = some #[(.int .i64 x0), (.int .i64 0), (.bool false), (.int .u8 0)] := by kernel_rfl
theorem bt8_1 (x1 : Int) : Try.prog.built 8 [(1, (.int .i64 x1))] = some #[(.int .i64 0), (.int .i64 x1), (.bool false), (.int .u8 0)] := by kernel_rfl
theorem bt8_2 (x2 : Bool) : Try.prog.built 8 [(2, (.bool x2))] = some #[(.int .i64 0), (.int .i64 0), (.bool x2), (.int .u8 0)] := by kernel_rfl
theorem bt8_3 (x3 : Int) : Try.prog.built 8 [(3, (.int .u8 x3))] = some #[(.int .i64 0), (.int .i64 0), (.bool false), (.int .u8 x3)] := by kernel_rfl
theorem bt8_01 (x0 : Int) (x1 : Int) : Try.prog.built 8 [(0, (.int .i64 x0)), (1, (.int .i64 x1))] = some #[(.int .i64 x0), (.int .i64 x1), (.bool false), (.int .u8 0)] := by kernel_rfl
theorem bt8_02 (x0 : Int) (x2 : Bool) : Try.prog.built 8 [(0, (.int .i64 x0)), (2, (.bool x2))] = some #[(.int .i64 x0), (.int .i64 0), (.bool x2), (.int .u8 0)] := by kernel_rfl
theorem bt8_03 (x0 : Int) (x3 : Int) : Try.prog.built 8 [(0, (.int .i64 x0)), (3, (.int .u8 x3))] = some #[(.int .i64 x0), (.int .i64 0), (.bool false), (.int .u8 x3)] := by kernel_rfl
theorem bt8_12 (x1 : Int) (x2 : Bool) : Try.prog.built 8 [(1, (.int .i64 x1)), (2, (.bool x2))] = some #[(.int .i64 0), (.int .i64 x1), (.bool x2), (.int .u8 0)] := by kernel_rfl
theorem bt8_13 (x1 : Int) (x3 : Int) : Try.prog.built 8 [(1, (.int .i64 x1)), (3, (.int .u8 x3))] = some #[(.int .i64 0), (.int .i64 x1), (.bool false), (.int .u8 x3)] := by kernel_rfl
theorem bt8_23 (x2 : Bool) (x3 : Int) : Try.prog.built 8 [(2, (.bool x2)), (3, (.int .u8 x3))] = some #[(.int .i64 0), (.int .i64 0), (.bool x2), (.int .u8 x3)] := by kernel_rfl
theorem bt8_012 (x0 : Int) (x1 : Int) (x2 : Bool) : Try.prog.built 8 [(0, (.int .i64 x0)), (1, (.int .i64 x1)), (2, (.bool x2))] = some #[(.int .i64 x0), (.int .i64 x1), (.bool x2), (.int .u8 0)] := by kernel_rfl
theorem bt8_013 (x0 : Int) (x1 : Int) (x3 : Int) : Try.prog.built 8 [(0, (.int .i64 x0)), (1, (.int .i64 x1)), (3, (.int .u8 x3))] = some #[(.int .i64 x0), (.int .i64 x1), (.bool false), (.int .u8 x3)] := by kernel_rfl
theorem bt8_023 (x0 : Int) (x2 : Bool) (x3 : Int) : Try.prog.built 8 [(0, (.int .i64 x0)), (2, (.bool x2)), (3, (.int .u8 x3))] = some #[(.int .i64 x0), (.int .i64 0), (.bool x2), (.int .u8 x3)] := by kernel_rfl
theorem bt8_123 (x1 : Int) (x2 : Bool) (x3 : Int) : Try.prog.built 8 [(1, (.int .i64 x1)), (2, (.bool x2)), (3, (.int .u8 x3))] = some #[(.int .i64 0), (.int .i64 x1), (.bool x2), (.int .u8 x3)] := by kernel_rfl
theorem bt8_0123 (x0 : Int) (x1 : Int) (x2 : Bool) (x3 : Int) : Try.prog.built 8 [(0, (.int .i64 x0)), (1, (.int .i64 x1)), (2, (.bool x2)), (3, (.int .u8 x3))] = some #[(.int .i64 x0), (.int .i64 x1), (.bool x2), (.int .u8 x3)] := by kernel_rfl
theorem bt13_  : Try.prog.built 13 [] = some #[(.string ⟨#[]⟩), (.int .u64 0)] := by kernel_rfl
theorem bt13_0 (x0 : ByteArray) : Try.prog.built 13 [(0, (.string x0))] = some #[(.string x0), (.int .u64 0)] := by kernel_rfl
theorem bt13_1 (x1 : Int) : Try.prog.built 13 [(1, (.int .u64 x1))] = some #[(.string ⟨#[]⟩), (.int .u64 x1)] := by kernel_rfl
theorem bt13_01 (x0 : ByteArray) (x1 : Int) : Try.prog.built 13 [(0, (.string x0)), (1, (.int .u64 x1))] = some #[(.string x0), (.int .u64 x1)] := by kernel_rfl
theorem bt14_  : Try.prog.built 14 [] = some #[(.string ⟨#[]⟩), (.int .u64 0)] := by kernel_rfl
theorem bt14_0 (x0 : ByteArray) : Try.prog.built 14 [(0, (.string x0))] = some #[(.string x0), (.int .u64 0)] := by kernel_rfl
theorem bt14_1 (x1 : Int) : Try.prog.built 14 [(1, (.int .u64 x1))] = some #[(.string ⟨#[]⟩), (.int .u64 x1)] := by kernel_rfl
theorem bt14_01 (x0 : ByteArray) (x1 : Int) : Try.prog.built 14 [(0, (.string x0)), (1, (.int .u64 x1))] = some #[(.string x0), (.int .u64 x1)] := by kernel_rfl
theorem bt18_  : Try.prog.built 18 [] = some #[(.pointer none)] := by kernel_rfl
theorem bt18_0 (x0 : Option Addr) : Try.prog.built 18 [(0, (.pointer x0))] = some #[(.pointer x0)] := by kernel_rfl
theorem bt19_  : Try.prog.built 19 [] = some #[(.pointer none)] := by kernel_rfl
theorem bt19_0 (x0 : Option Addr) : Try.prog.built 19 [(0, (.pointer x0))] = some #[(.pointer x0)] := by kernel_rfl
theorem bs5_0  : builtSl Try.prog 5 0 [] = some #[] := by kernel_rfl
theorem bs5_1 (x0 : Int) : builtSl Try.prog 5 1 [(0, (.int .u8 x0))] = some #[(.int .u8 x0)] := by kernel_rfl
theorem bs5_2 (x0 : Int) (x1 : Int) : builtSl Try.prog 5 2 [(0, (.int .u8 x0)), (1, (.int .u8 x1))] = some #[(.int .u8 x0), (.int .u8 x1)] := by kernel_rfl
theorem bs5_3 (x0 : Int) (x1 : Int) (x2 : Int) : builtSl Try.prog 5 3 [(0, (.int .u8 x0)), (1, (.int .u8 x1)), (2, (.int .u8 x2))] = some #[(.int .u8 x0), (.int .u8 x1), (.int .u8 x2)] := by kernel_rfl
theorem bs5_4 (x0 : Int) (x1 : Int) (x2 : Int) (x3 : Int) : builtSl Try.prog 5 4 [(0, (.int .u8 x0)), (1, (.int .u8 x1)), (2, (.int .u8 x2)), (3, (.int .u8 x3))] = some #[(.int .u8 x0), (.int .u8 x1), (.int .u8 x2), (.int .u8 x3)] := by kernel_rfl
theorem bs5_5 (x0 : Int) (x1 : Int) (x2 : Int) (x3 : Int) (x4 : Int) : builtSl Try.prog 5 5 [(0, (.int .u8 x0)), (1, (.int .u8 x1)), (2, (.int .u8 x2)), (3, (.int .u8 x3)), (4, (.int .u8 x4))] = some #[(.int .u8 x0), (.int .u8 x1), (.int .u8 x2), (.int .u8 x3), (.int .u8 x4)] := by kernel_rfl
theorem bs5_6 (x0 : Int) (x1 : Int) (x2 : Int) (x3 : Int) (x4 : Int) (x5 : Int) : builtSl Try.prog 5 6 [(0, (.int .u8 x0)), (1, (.int .u8 x1)), (2, (.int .u8 x2)), (3, (.int .u8 x3)), (4, (.int .u8 x4)), (5, (.int .u8 x5))] = some #[(.int .u8 x0), (.int .u8 x1), (.int .u8 x2), (.int .u8 x3), (.int .u8 x4), (.int .u8 x5)] := by kernel_rfl
theorem bs33_0  : builtSl Try.prog 33 0 [] = some #[] := by kernel_rfl
theorem bs33_1 (a0 : Option Addr) (n0 c0 : Nat) : builtSl Try.prog 33 1 [(0, (.slice a0 n0 c0))] = some #[(.slice a0 n0 c0)] := by kernel_rfl
theorem bs33_2 (a0 : Option Addr) (n0 c0 : Nat) (a1 : Option Addr) (n1 c1 : Nat) : builtSl Try.prog 33 2 [(0, (.slice a0 n0 c0)), (1, (.slice a1 n1 c1))] = some #[(.slice a0 n0 c0), (.slice a1 n1 c1)] := by kernel_rfl
theorem bs33_3 (a0 : Option Addr) (n0 c0 : Nat) (a1 : Option Addr) (n1 c1 : Nat) (a2 : Option Addr) (n2 c2 : Nat) : builtSl Try.prog 33 3 [(0, (.slice a0 n0 c0)), (1, (.slice a1 n1 c1)), (2, (.slice a2 n2 c2))] = some #[(.slice a0 n0 c0), (.slice a1 n1 c1), (.slice a2 n2 c2)] := by kernel_rfl
theorem bs33_4 (a0 : Option Addr) (n0 c0 : Nat) (a1 : Option Addr) (n1 c1 : Nat) (a2 : Option Addr) (n2 c2 : Nat) (a3 : Option Addr) (n3 c3 : Nat) : builtSl Try.prog 33 4 [(0, (.slice a0 n0 c0)), (1, (.slice a1 n1 c1)), (2, (.slice a2 n2 c2)), (3, (.slice a3 n3 c3))] = some #[(.slice a0 n0 c0), (.slice a1 n1 c1), (.slice a2 n2 c2), (.slice a3 n3 c3)] := by kernel_rfl
theorem bs33_5 (a0 : Option Addr) (n0 c0 : Nat) (a1 : Option Addr) (n1 c1 : Nat) (a2 : Option Addr) (n2 c2 : Nat) (a3 : Option Addr) (n3 c3 : Nat) (a4 : Option Addr) (n4 c4 : Nat) : builtSl Try.prog 33 5 [(0, (.slice a0 n0 c0)), (1, (.slice a1 n1 c1)), (2, (.slice a2 n2 c2)), (3, (.slice a3 n3 c3)), (4, (.slice a4 n4 c4))] = some #[(.slice a0 n0 c0), (.slice a1 n1 c1), (.slice a2 n2 c2), (.slice a3 n3 c3), (.slice a4 n4 c4)] := by kernel_rfl
theorem bs33_6 (a0 : Option Addr) (n0 c0 : Nat) (a1 : Option Addr) (n1 c1 : Nat) (a2 : Option Addr) (n2 c2 : Nat) (a3 : Option Addr) (n3 c3 : Nat) (a4 : Option Addr) (n4 c4 : Nat) (a5 : Option Addr) (n5 c5 : Nat) : builtSl Try.prog 33 6 [(0, (.slice a0 n0 c0)), (1, (.slice a1 n1 c1)), (2, (.slice a2 n2 c2)), (3, (.slice a3 n3 c3)), (4, (.slice a4 n4 c4)), (5, (.slice a5 n5 c5))] = some #[(.slice a0 n0 c0), (.slice a1 n1 c1), (.slice a2 n2 c2), (.slice a3 n3 c3), (.slice a4 n4 c4), (.slice a5 n5 c5)] := by kernel_rfl
theorem bs50_0  : builtSl Try.prog 50 0 [] = some #[] := by kernel_rfl
theorem bs50_1 (v0_0 v0_1 v0_2 : Value) : builtSl Try.prog 50 1 [(0, (.agg #[v0_0, v0_1, v0_2]))] = some #[v0_0, v0_1, v0_2] := by kernel_rfl
theorem bs50_2 (v0_0 v0_1 v0_2 : Value) (v1_0 v1_1 v1_2 : Value) : builtSl Try.prog 50 2 [(0, (.agg #[v0_0, v0_1, v0_2])), (1, (.agg #[v1_0, v1_1, v1_2]))] = some #[v0_0, v0_1, v0_2, v1_0, v1_1, v1_2] := by kernel_rfl
theorem bs50_3 (v0_0 v0_1 v0_2 : Value) (v1_0 v1_1 v1_2 : Value) (v2_0 v2_1 v2_2 : Value) : builtSl Try.prog 50 3 [(0, (.agg #[v0_0, v0_1, v0_2])), (1, (.agg #[v1_0, v1_1, v1_2])), (2, (.agg #[v2_0, v2_1, v2_2]))] = some #[v0_0, v0_1, v0_2, v1_0, v1_1, v1_2, v2_0, v2_1, v2_2] := by kernel_rfl
theorem bs50_4 (v0_0 v0_1 v0_2 : Value) (v1_0 v1_1 v1_2 : Value) (v2_0 v2_1 v2_2 : Value) (v3_0 v3_1 v3_2 : Value) : builtSl Try.prog 50 4 [(0, (.agg #[v0_0, v0_1, v0_2])), (1, (.agg #[v1_0, v1_1, v1_2])), (2, (.agg #[v2_0, v2_1, v2_2])), (3, (.agg #[v3_0, v3_1, v3_2]))] = some #[v0_0, v0_1, v0_2, v1_0, v1_1, v1_2, v2_0, v2_1, v2_2, v3_0, v3_1, v3_2] := by kernel_rfl
theorem bs50_5 (v0_0 v0_1 v0_2 : Value) (v1_0 v1_1 v1_2 : Value) (v2_0 v2_1 v2_2 : Value) (v3_0 v3_1 v3_2 : Value) (v4_0 v4_1 v4_2 : Value) : builtSl Try.prog 50 5 [(0, (.agg #[v0_0, v0_1, v0_2])), (1, (.agg #[v1_0, v1_1, v1_2])), (2, (.agg #[v2_0, v2_1, v2_2])), (3, (.agg #[v3_0, v3_1, v3_2])), (4, (.agg #[v4_0, v4_1, v4_2]))] = some #[v0_0, v0_1, v0_2, v1_0, v1_1, v1_2, v2_0, v2_1, v2_2, v3_0, v3_1, v3_2, v4_0, v4_1, v4_2] := by kernel_rfl
theorem bs50_6 (v0_0 v0_1 v0_2 : Value) (v1_0 v1_1 v1_2 : Value) (v2_0 v2_1 v2_2 : Value) (v3_0 v3_1 v3_2 : Value) (v4_0 v4_1 v4_2 : Value) (v5_0 v5_1 v5_2 : Value) : builtSl Try.prog 50 6 [(0, (.agg #[v0_0, v0_1, v0_2])), (1, (.agg #[v1_0, v1_1, v1_2])), (2, (.agg #[v2_0, v2_1, v2_2])), (3, (.agg #[v3_0, v3_1, v3_2])), (4, (.agg #[v4_0, v4_1, v4_2])), (5, (.agg #[v5_0, v5_1, v5_2]))] = some #[v0_0, v0_1, v0_2, v1_0, v1_1, v1_2, v2_0, v2_1, v2_2, v3_0, v3_1, v3_2, v4_0, v4_1, v4_2, v5_0, v5_1, v5_2] := by kernel_rfl
theorem bt27_  : Try.prog.built 27 [] = some #[(.int .i64 0), (.slice none 0 0)] := by kernel_rfl
theorem bt27_0 (x0 : Int) : Try.prog.built 27 [(0, (.int .i64 x0))] = some #[(.int .i64 x0), (.slice none 0 0)] := by kernel_rfl
theorem bt27_1 (a1 : Option Addr) (n1 c1 : Nat) : Try.prog.built 27 [(1, (.slice a1 n1 c1))] = some #[(.int .i64 0), (.slice a1 n1 c1)] := by kernel_rfl
theorem bt27_01 (x0 : Int) (a1 : Option Addr) (n1 c1 : Nat) : Try.prog.built 27 [(0, (.int .i64 x0)), (1, (.slice a1 n1 c1))] = some #[(.int .i64 x0), (.slice a1 n1 c1)] := by kernel_rfl
theorem bt28_  : Try.prog.built 28 [] = some #[(.int .i64 0), (.slice none 0 0)] := by kernel_rfl
theorem bt28_0 (x0 : Int) : Try.prog.built 28 [(0, (.int .i64 x0))] = some #[(.int .i64 x0), (.slice none 0 0)] := by kernel_rfl
theorem bt28_1 (a1 : Option Addr) (n1 c1 : Nat) : Try.prog.built 28 [(1, (.slice a1 n1 c1))] = some #[(.int .i64 0), (.slice a1 n1 c1)] := by kernel_rfl
theorem bt28_01 (x0 : Int) (a1 : Option Addr) (n1 c1 : Nat) : Try.prog.built 28 [(0, (.int .i64 x0)), (1, (.slice a1 n1 c1))] = some #[(.int .i64 x0), (.slice a1 n1 c1)] := by kernel_rfl
theorem bs2_0  : builtSl Try.prog 2 0 [] = some #[] := by kernel_rfl
theorem bs2_1 (x0 : Int) : builtSl Try.prog 2 1 [(0, (.int .i64 x0))] = some #[(.int .i64 x0)] := by kernel_rfl
theorem bs2_2 (x0 : Int) (x1 : Int) : builtSl Try.prog 2 2 [(0, (.int .i64 x0)), (1, (.int .i64 x1))] = some #[(.int .i64 x0), (.int .i64 x1)] := by kernel_rfl
theorem bs2_3 (x0 : Int) (x1 : Int) (x2 : Int) : builtSl Try.prog 2 3 [(0, (.int .i64 x0)), (1, (.int .i64 x1)), (2, (.int .i64 x2))] = some #[(.int .i64 x0), (.int .i64 x1), (.int .i64 x2)] := by kernel_rfl
theorem bs2_4 (x0 : Int) (x1 : Int) (x2 : Int) (x3 : Int) : builtSl Try.prog 2 4 [(0, (.int .i64 x0)), (1, (.int .i64 x1)), (2, (.int .i64 x2)), (3, (.int .i64 x3))] = some #[(.int .i64 x0), (.int .i64 x1), (.int .i64 x2), (.int .i64 x3)] := by kernel_rfl
theorem bs2_5 (x0 : Int) (x1 : Int) (x2 : Int) (x3 : Int) (x4 : Int) : builtSl Try.prog 2 5 [(0, (.int .i64 x0)), (1, (.int .i64 x1)), (2, (.int .i64 x2)), (3, (.int .i64 x3)), (4, (.int .i64 x4))] = some #[(.int .i64 x0), (.int .i64 x1), (.int .i64 x2), (.int .i64 x3), (.int .i64 x4)] := by kernel_rfl
theorem bs2_6 (x0 : Int) (x1 : Int) (x2 : Int) (x3 : Int) (x4 : Int) (x5 : Int) : builtSl Try.prog 2 6 [(0, (.int .i64 x0)), (1, (.int .i64 x1)), (2, (.int .i64 x2)), (3, (.int .i64 x3)), (4, (.int .i64 x4)), (5, (.int .i64 x5))] = some #[(.int .i64 x0), (.int .i64 x1), (.int .i64 x2), (.int .i64 x3), (.int .i64 x4), (.int .i64 x5)] := by kernel_rfl
theorem bt49_  : Try.prog.built 49 [] = some #[(.int .i64 0), (.int .i64 0), (.int .i64 0)] := by kernel_rfl
theorem bt49_0 (x0 : Int) : Try.prog.built 49 [(0, (.int .i64 x0))] = some #[(.int .i64 x0), (.int .i64 0), (.int .i64 0)] := by kernel_rfl
theorem bt49_1 (x1 : Int) : Try.prog.built 49 [(1, (.int .i64 x1))] = some #[(.int .i64 0), (.int .i64 x1), (.int .i64 0)] := by kernel_rfl
theorem bt49_2 (x2 : Int) : Try.prog.built 49 [(2, (.int .i64 x2))] = some #[(.int .i64 0), (.int .i64 0), (.int .i64 x2)] := by kernel_rfl
theorem bt49_01 (x0 : Int) (x1 : Int) : Try.prog.built 49 [(0, (.int .i64 x0)), (1, (.int .i64 x1))] = some #[(.int .i64 x0), (.int .i64 x1), (.int .i64 0)] := by kernel_rfl
theorem bt49_02 (x0 : Int) (x2 : Int) : Try.prog.built 49 [(0, (.int .i64 x0)), (2, (.int .i64 x2))] = some #[(.int .i64 x0), (.int .i64 0), (.int .i64 x2)] := by kernel_rfl
theorem bt49_12 (x1 : Int) (x2 : Int) : Try.prog.built 49 [(1, (.int .i64 x1)), (2, (.int .i64 x2))] = some #[(.int .i64 0), (.int .i64 x1), (.int .i64 x2)] := by kernel_rfl
theorem bt49_012 (x0 : Int) (x1 : Int) (x2 : Int) : Try.prog.built 49 [(0, (.int .i64 x0)), (1, (.int .i64 x1)), (2, (.int .i64 x2))] = some #[(.int .i64 x0), (.int .i64 x1), (.int .i64 x2)] := by kernel_rfl
theorem bt50_  : Try.prog.built 50 [] = some #[(.int .i64 0), (.int .i64 0), (.int .i64 0)] := by kernel_rfl
theorem bt50_0 (x0 : Int) : Try.prog.built 50 [(0, (.int .i64 x0))] = some #[(.int .i64 x0), (.int .i64 0), (.int .i64 0)] := by kernel_rfl
theorem bt50_1 (x1 : Int) : Try.prog.built 50 [(1, (.int .i64 x1))] = some #[(.int .i64 0), (.int .i64 x1), (.int .i64 0)] := by kernel_rfl
theorem bt50_2 (x2 : Int) : Try.prog.built 50 [(2, (.int .i64 x2))] = some #[(.int .i64 0), (.int .i64 0), (.int .i64 x2)] := by kernel_rfl
theorem bt50_01 (x0 : Int) (x1 : Int) : Try.prog.built 50 [(0, (.int .i64 x0)), (1, (.int .i64 x1))] = some #[(.int .i64 x0), (.int .i64 x1), (.int .i64 0)] := by kernel_rfl
theorem bt50_02 (x0 : Int) (x2 : Int) : Try.prog.built 50 [(0, (.int .i64 x0)), (2, (.int .i64 x2))] = some #[(.int .i64 x0), (.int .i64 0), (.int .i64 x2)] := by kernel_rfl
theorem bt50_12 (x1 : Int) (x2 : Int) : Try.prog.built 50 [(1, (.int .i64 x1)), (2, (.int .i64 x2))] = some #[(.int .i64 0), (.int .i64 x1), (.int .i64 x2)] := by kernel_rfl
theorem bt50_012 (x0 : Int) (x1 : Int) (x2 : Int) : Try.prog.built 50 [(0, (.int .i64 x0)), (1, (.int .i64 x1)), (2, (.int .i64 x2))] = some #[(.int .i64 x0), (.int .i64 x1), (.int .i64 x2)] := by kernel_rfl
theorem bt66_  : Try.prog.built 66 [] = some #[(.slice none 0 0), (.int .i64 0), (.int .u64 0)] := by kernel_rfl
theorem bt66_0 (a0 : Option Addr) (n0 c0 : Nat) : Try.prog.built 66 [(0, (.slice a0 n0 c0))] = some #[(.slice a0 n0 c0), (.int .i64 0), (.int .u64 0)] := by kernel_rfl
theorem bt66_1 (x1 : Int) : Try.prog.built 66 [(1, (.int .i64 x1))] = some #[(.slice none 0 0), (.int .i64 x1), (.int .u64 0)] := by kernel_rfl
theorem bt66_2 (x2 : Int) : Try.prog.built 66 [(2, (.int .u64 x2))] = some #[(.slice none 0 0), (.int .i64 0), (.int .u64 x2)] := by kernel_rfl
theorem bt66_01 (a0 : Option Addr) (n0 c0 : Nat) (x1 : Int) : Try.prog.built 66 [(0, (.slice a0 n0 c0)), (1, (.int .i64 x1))] = some #[(.slice a0 n0 c0), (.int .i64 x1), (.int .u64 0)] := by kernel_rfl
theorem bt66_02 (a0 : Option Addr) (n0 c0 : Nat) (x2 : Int) : Try.prog.built 66 [(0, (.slice a0 n0 c0)), (2, (.int .u64 x2))] = some #[(.slice a0 n0 c0), (.int .i64 0), (.int .u64 x2)] := by kernel_rfl
theorem bt66_12 (x1 : Int) (x2 : Int) : Try.prog.built 66 [(1, (.int .i64 x1)), (2, (.int .u64 x2))] = some #[(.slice none 0 0), (.int .i64 x1), (.int .u64 x2)] := by kernel_rfl
theorem bt66_012 (a0 : Option Addr) (n0 c0 : Nat) (x1 : Int) (x2 : Int) : Try.prog.built 66 [(0, (.slice a0 n0 c0)), (1, (.int .i64 x1)), (2, (.int .u64 x2))] = some #[(.slice a0 n0 c0), (.int .i64 x1), (.int .u64 x2)] := by kernel_rfl
theorem bt67_  : Try.prog.built 67 [] = some #[(.slice none 0 0), (.int .i64 0), (.int .u64 0)] := by kernel_rfl
theorem bt67_0 (a0 : Option Addr) (n0 c0 : Nat) : Try.prog.built 67 [(0, (.slice a0 n0 c0))] = some #[(.slice a0 n0 c0), (.int .i64 0), (.int .u64 0)] := by kernel_rfl
theorem bt67_1 (x1 : Int) : Try.prog.built 67 [(1, (.int .i64 x1))] = some #[(.slice none 0 0), (.int .i64 x1), (.int .u64 0)] := by kernel_rfl
theorem bt67_2 (x2 : Int) : Try.prog.built 67 [(2, (.int .u64 x2))] = some #[(.slice none 0 0), (.int .i64 0), (.int .u64 x2)] := by kernel_rfl
theorem bt67_01 (a0 : Option Addr) (n0 c0 : Nat) (x1 : Int) : Try.prog.built 67 [(0, (.slice a0 n0 c0)), (1, (.int .i64 x1))] = some #[(.slice a0 n0 c0), (.int .i64 x1), (.int .u64 0)] := by kernel_rfl
theorem bt67_02 (a0 : Option Addr) (n0 c0 : Nat) (x2 : Int) : Try.prog.built 67 [(0, (.slice a0 n0 c0)), (2, (.int .u64 x2))] = some #[(.slice a0 n0 c0), (.int .i64 0), (.int .u64 x2)] := by kernel_rfl
theorem bt67_12 (x1 : Int) (x2 : Int) : Try.prog.built 67 [(1, (.int .i64 x1)), (2, (.int .u64 x2))] = some #[(.slice none 0 0), (.int .i64 x1), (.int .u64 x2)] := by kernel_rfl
theorem bt67_012 (a0 : Option Addr) (n0 c0 : Nat) (x1 : Int) (x2 : Int) : Try.prog.built 67 [(0, (.slice a0 n0 c0)), (1, (.int .i64 x1)), (2, (.int .u64 x2))] = some #[(.slice a0 n0 c0), (.int .i64 x1), (.int .u64 x2)] := by kernel_rfl
theorem bt131_  : Try.prog.built 131 [] = some #[(.pointer none), (.pointer none), (.pointer none), (.string ⟨#[]⟩)] := by kernel_rfl
theorem bt131_0 (x0 : Option Addr) : Try.prog.built 131 [(0, (.pointer x0))] = some #[(.pointer x0), (.pointer none), (.pointer none), (.string ⟨#[]⟩)] := by kernel_rfl
theorem bt131_1 (x1 : Option Addr) : Try.prog.built 131 [(1, (.pointer x1))] = some #[(.pointer none), (.pointer x1), (.pointer none), (.string ⟨#[]⟩)] := by kernel_rfl
theorem bt131_2 (x2 : Option Addr) : Try.prog.built 131 [(2, (.pointer x2))] = some #[(.pointer none), (.pointer none), (.pointer x2), (.string ⟨#[]⟩)] := by kernel_rfl
theorem bt131_3 (x3 : ByteArray) : Try.prog.built 131 [(3, (.string x3))] = some #[(.pointer none), (.pointer none), (.pointer none), (.string x3)] := by kernel_rfl
theorem bt131_01 (x0 : Option Addr) (x1 : Option Addr) : Try.prog.built 131 [(0, (.pointer x0)), (1, (.pointer x1))] = some #[(.pointer x0), (.pointer x1), (.pointer none), (.string ⟨#[]⟩)] := by kernel_rfl
theorem bt131_02 (x0 : Option Addr) (x2 : Option Addr) : Try.prog.built 131 [(0, (.pointer x0)), (2, (.pointer x2))] = some #[(.pointer x0), (.pointer none), (.pointer x2), (.string ⟨#[]⟩)] := by kernel_rfl
theorem bt131_03 (x0 : Option Addr) (x3 : ByteArray) : Try.prog.built 131 [(0, (.pointer x0)), (3, (.string x3))] = some #[(.pointer x0), (.pointer none), (.pointer none), (.string x3)] := by kernel_rfl
theorem bt131_12 (x1 : Option Addr) (x2 : Option Addr) : Try.prog.built 131 [(1, (.pointer x1)), (2, (.pointer x2))] = some #[(.pointer none), (.pointer x1), (.pointer x2), (.string ⟨#[]⟩)] := by kernel_rfl
theorem bt131_13 (x1 : Option Addr) (x3 : ByteArray) : Try.prog.built 131 [(1, (.pointer x1)), (3, (.string x3))] = some #[(.pointer none), (.pointer x1), (.pointer none), (.string x3)] := by kernel_rfl
theorem bt131_23 (x2 : Option Addr) (x3 : ByteArray) : Try.prog.built 131 [(2, (.pointer x2)), (3, (.string x3))] = some #[(.pointer none), (.pointer none), (.pointer x2), (.string x3)] := by kernel_rfl
theorem bt131_012 (x0 : Option Addr) (x1 : Option Addr) (x2 : Option Addr) : Try.prog.built 131 [(0, (.pointer x0)), (1, (.pointer x1)), (2, (.pointer x2))] = some #[(.pointer x0), (.pointer x1), (.pointer x2), (.string ⟨#[]⟩)] := by kernel_rfl
theorem bt131_013 (x0 : Option Addr) (x1 : Option Addr) (x3 : ByteArray) : Try.prog.built 131 [(0, (.pointer x0)), (1, (.pointer x1)), (3, (.string x3))] = some #[(.pointer x0), (.pointer x1), (.pointer none), (.string x3)] := by kernel_rfl
theorem bt131_023 (x0 : Option Addr) (x2 : Option Addr) (x3 : ByteArray) : Try.prog.built 131 [(0, (.pointer x0)), (2, (.pointer x2)), (3, (.string x3))] = some #[(.pointer x0), (.pointer none), (.pointer x2), (.string x3)] := by kernel_rfl
theorem bt131_123 (x1 : Option Addr) (x2 : Option Addr) (x3 : ByteArray) : Try.prog.built 131 [(1, (.pointer x1)), (2, (.pointer x2)), (3, (.string x3))] = some #[(.pointer none), (.pointer x1), (.pointer x2), (.string x3)] := by kernel_rfl
theorem bt131_0123 (x0 : Option Addr) (x1 : Option Addr) (x2 : Option Addr) (x3 : ByteArray) : Try.prog.built 131 [(0, (.pointer x0)), (1, (.pointer x1)), (2, (.pointer x2)), (3, (.string x3))] = some #[(.pointer x0), (.pointer x1), (.pointer x2), (.string x3)] := by kernel_rfl
theorem bt132_  : Try.prog.built 132 [] = some #[(.pointer none), (.pointer none), (.pointer none), (.string ⟨#[]⟩)] := by kernel_rfl
theorem bt132_0 (x0 : Option Addr) : Try.prog.built 132 [(0, (.pointer x0))] = some #[(.pointer x0), (.pointer none), (.pointer none), (.string ⟨#[]⟩)] := by kernel_rfl
theorem bt132_1 (x1 : Option Addr) : Try.prog.built 132 [(1, (.pointer x1))] = some #[(.pointer none), (.pointer x1), (.pointer none), (.string ⟨#[]⟩)] := by kernel_rfl
theorem bt132_2 (x2 : Option Addr) : Try.prog.built 132 [(2, (.pointer x2))] = some #[(.pointer none), (.pointer none), (.pointer x2), (.string ⟨#[]⟩)] := by kernel_rfl
theorem bt132_3 (x3 : ByteArray) : Try.prog.built 132 [(3, (.string x3))] = some #[(.pointer none), (.pointer none), (.pointer none), (.string x3)] := by kernel_rfl
theorem bt132_01 (x0 : Option Addr) (x1 : Option Addr) : Try.prog.built 132 [(0, (.pointer x0)), (1, (.pointer x1))] = some #[(.pointer x0), (.pointer x1), (.pointer none), (.string ⟨#[]⟩)] := by kernel_rfl
theorem bt132_02 (x0 : Option Addr) (x2 : Option Addr) : Try.prog.built 132 [(0, (.pointer x0)), (2, (.pointer x2))] = some #[(.pointer x0), (.pointer none), (.pointer x2), (.string ⟨#[]⟩)] := by kernel_rfl
theorem bt132_03 (x0 : Option Addr) (x3 : ByteArray) : Try.prog.built 132 [(0, (.pointer x0)), (3, (.string x3))] = some #[(.pointer x0), (.pointer none), (.pointer none), (.string x3)] := by kernel_rfl
theorem bt132_12 (x1 : Option Addr) (x2 : Option Addr) : Try.prog.built 132 [(1, (.pointer x1)), (2, (.pointer x2))] = some #[(.pointer none), (.pointer x1), (.pointer x2), (.string ⟨#[]⟩)] := by kernel_rfl
theorem bt132_13 (x1 : Option Addr) (x3 : ByteArray) : Try.prog.built 132 [(1, (.pointer x1)), (3, (.string x3))] = some #[(.pointer none), (.pointer x1), (.pointer none), (.string x3)] := by kernel_rfl
theorem bt132_23 (x2 : Option Addr) (x3 : ByteArray) : Try.prog.built 132 [(2, (.pointer x2)), (3, (.string x3))] = some #[(.pointer none), (.pointer none), (.pointer x2), (.string x3)] := by kernel_rfl
theorem bt132_012 (x0 : Option Addr) (x1 : Option Addr) (x2 : Option Addr) : Try.prog.built 132 [(0, (.pointer x0)), (1, (.pointer x1)), (2, (.pointer x2))] = some #[(.pointer x0), (.pointer x1), (.pointer x2), (.string ⟨#[]⟩)] := by kernel_rfl
theorem bt132_013 (x0 : Option Addr) (x1 : Option Addr) (x3 : ByteArray) : Try.prog.built 132 [(0, (.pointer x0)), (1, (.pointer x1)), (3, (.string x3))] = some #[(.pointer x0), (.pointer x1), (.pointer none), (.string x3)] := by kernel_rfl
theorem bt132_023 (x0 : Option Addr) (x2 : Option Addr) (x3 : ByteArray) : Try.prog.built 132 [(0, (.pointer x0)), (2, (.pointer x2)), (3, (.string x3))] = some #[(.pointer x0), (.pointer none), (.pointer x2), (.string x3)] := by kernel_rfl
theorem bt132_123 (x1 : Option Addr) (x2 : Option Addr) (x3 : ByteArray) : Try.prog.built 132 [(1, (.pointer x1)), (2, (.pointer x2)), (3, (.string x3))] = some #[(.pointer none), (.pointer x1), (.pointer x2), (.string x3)] := by kernel_rfl
theorem bt132_0123 (x0 : Option Addr) (x1 : Option Addr) (x2 : Option Addr) (x3 : ByteArray) : Try.prog.built 132 [(0, (.pointer x0)), (1, (.pointer x1)), (2, (.pointer x2)), (3, (.string x3))] = some #[(.pointer x0), (.pointer x1), (.pointer x2), (.string x3)] := by kernel_rfl
theorem bt134_  : Try.prog.built 134 [] = some #[] := by kernel_rfl
theorem bt135_  : Try.prog.built 135 [] = some #[] := by kernel_rfl
attribute [go_sem] bt7_ bt7_0 bt7_1 bt7_2 bt7_3 bt7_01 bt7_02 bt7_03 bt7_12 bt7_13 bt7_23 bt7_012 bt7_013 bt7_023 bt7_123 bt7_0123 bt8_ bt8_0 bt8_1 bt8_2 bt8_3 bt8_01 bt8_02 bt8_03 bt8_12 bt8_13 bt8_23 bt8_012 bt8_013 bt8_023 bt8_123 bt8_0123 bt13_ bt13_0 bt13_1 bt13_01 bt14_ bt14_0 bt14_1 bt14_01 bt18_ bt18_0 bt19_ bt19_0 bs5_0 bs5_1 bs5_2 bs5_3 bs5_4 bs5_5 bs5_6 bs33_0 bs33_1 bs33_2 bs33_3 bs33_4 bs33_5 bs33_6 bs50_0 bs50_1 bs50_2 bs50_3 bs50_4 bs50_5 bs50_6 bt27_ bt27_0 bt27_1 bt27_01 bt28_ bt28_0 bt28_1 bt28_01 bs2_0 bs2_1 bs2_2 bs2_3 bs2_4 bs2_5 bs2_6 bt49_ bt49_0 bt49_1 bt49_2 bt49_01 bt49_02 bt49_12 bt49_012 bt50_ bt50_0 bt50_1 bt50_2 bt50_01 bt50_02 bt50_12 bt50_012 bt66_ bt66_0 bt66_1 bt66_2 bt66_01 bt66_02 bt66_12 bt66_012 bt67_ bt67_0 bt67_1 bt67_2 bt67_01 bt67_02 bt67_12 bt67_012 bt131_ bt131_0 bt131_1 bt131_2 bt131_3 bt131_01 bt131_02 bt131_03 bt131_12 bt131_13 bt131_23 bt131_012 bt131_013 bt131_023 bt131_123 bt131_0123 bt132_ bt132_0 bt132_1 bt132_2 bt132_3 bt132_01 bt132_02 bt132_03 bt132_12 bt132_13 bt132_23 bt132_012 bt132_013 bt132_023 bt132_123 bt132_0123 bt134_ bt135_
attribute [go_sem] ti2 zok2 Try.underlying2 ti3 zok3 Try.underlying3 ti4 zok4 Try.underlying4 ti5 zok5 Try.underlying5 ti6 zok6 Try.underlying6 ti7 zok7 Try.underlying7 ti8 zok8 Try.underlying8 ti9 zok9 Try.underlying9 ti10 zok10 Try.underlying10 ti11 zok11 Try.underlying11 ti12 zok12 Try.underlying12 ti13 zok13 Try.underlying13 ti14 zok14 Try.underlying14 ti15 zok15 Try.underlying15 ti16 zok16 Try.underlying16 ti17 zok17 Try.underlying17 ti18 zok18 Try.underlying18 ti19 zok19 Try.underlying19 ti21 zok21 Try.underlying21 ti22 zok22 Try.underlying22 ti24 zok24 Try.underlying24 ti26 zok26 Try.underlying26 ti27 zok27 Try.underlying27 ti28 zok28 Try.underlying28 ti33 zok33 Try.underlying33 ti44 zok44 Try.underlying44 ti49 zok49 Try.underlying49 ti50 zok50 Try.underlying50 ti65 zok65 Try.underlying65 ti66 zok66 Try.underlying66 ti67 zok67 Try.underlying67 ti72 zok72 Try.underlying72 ti83 zok83 Try.underlying83 ti96 zok96 Try.underlying96 ti105 zok105 Try.underlying105 ti110 zok110 Try.underlying110 ti111 zok111 Try.underlying111 ti112 zok112 Try.underlying112 ti113 zok113 Try.underlying113 ti117 zok117 Try.underlying117 ti124 zok124 Try.underlying124 ti131 zok131 Try.underlying131 ti132 zok132 Try.underlying132 ti133 zok133 Try.underlying133 ti134 zok134 Try.underlying134 ti135 zok135 Try.underlying135 ti137 zok137 Try.underlying137 ti138 zok138 Try.underlying138 ti140 zok140 Try.underlying140 ti141 zok141 Try.underlying141 ti142 zok142 Try.underlying142 ti143 zok143 Try.underlying143 ti144 zok144 Try.underlying144
end Go.Proofs.Ytfnegaedkomcgaa
end

section
/- What every row of this seat needs of the program: closed facts. No statement of the seat is proved here. -/
set_option linter.all false
namespace Go.Proofs.Ytfnegaedkomcgaa
open Go.Ab
theorem own : ownKnob Try.prog.godebug = none := by kernel_rfl
theorem laidOut : laidOutB Try.prog = true := by kernel_rfl
theorem mixed : Try.prog.follows .mixedOrders = true := by kernel_rfl
theorem head_io : Try.prog.initOrder = "harness" ++ (" " ++ ("c4b4cab9d2a3039281e98c75a6bd7078f7ad12a6ecffc3bbe9155364b69f0f8f" ++ (" " ++ ("cut" ++ (" " ++ ("at" ++ (" " ++ "loop.example/g01355/laws.FnSquares"))))))) := by kernel_rfl
theorem head_ws : behindMainWord (wordsSigns Try.prog.initOrder.toList) = "cut".toList :: "at".toList :: wordsSigns "loop.example/g01355/laws.FnSquares".toList :=
  cut_words head_io (by kernel_rfl) (by kernel_rfl) (by kernel_rfl) (by kernel_rfl) (by kernel_rfl) (by kernel_rfl)
theorem mkFact : Try.prog.make = some .cut := make_of head_ws (by kernel_rfl) (by kernel_rfl)
theorem liftFact : Try.prog.liftsFinal = false := liftsFinal_of head_ws
theorem enterFact : Try.prog.mayEnter = true := mayEnter_of head_ws (by kernel_rfl) (by kernel_rfl) (by kernel_rfl)
theorem rowedFact : mapsRowed Try.prog = true := by kernel_rfl
theorem heardFact : Try.prog.stopsHeard = true := by kernel_rfl
end Go.Proofs.Ytfnegaedkomcgaa
end

section
/- Lists that a call builds for itself: appending, marking, what stays as it was. No statement of the seat is proved here; it holds for every program. -/
set_option linter.all false
namespace Go.Ab

/-- All blocks but those of S are as they were. -/
def Same (S : Nat → Prop) (H H' : Heap) : Prop := H.length ≤ H'.length ∧ ∀ j, j < H.length → ¬ S j → H'[j]? = H[j]?

theorem Same.refl (S : Nat → Prop) (H : Heap) : Same S H H := ⟨Nat.le_refl _, fun _ _ _ => rfl⟩
theorem Same.trans {S : Nat → Prop} {H H' H'' : Heap} (h : Same S H H') (h' : Same S H' H'') : Same S H H'' :=
  ⟨Nat.le_trans h.1 h'.1, fun j hj hs => (h'.2 j (Nat.lt_of_lt_of_le hj h.1) hs).trans (h.2 j hj hs)⟩
theorem Same.mono {S T : Nat → Prop} {H H' : Heap} (h : Same S H H') (hst : ∀ j, j < H.length → S j → T j) : Same T H H' :=
  ⟨h.1, fun j hj hs => h.2 j hj fun hS => hs (hst j hj hS)⟩
theorem Same.of_prefix {S : Nat → Prop} {H H' : Heap} (h : H <+: H') : Same S H H' := by
  obtain ⟨t, rfl⟩ := h
  exact ⟨by simp, fun j hj _ => List.getElem?_append_left hj⟩
theorem Same.prefix {S : Nat → Prop} {H H' : Heap} (h : Same S H H') (hs : ∀ j, j < H.length → ¬ S j) : H <+: H' := by
  rw [List.prefix_iff_eq_take]
  apply List.ext_getElem?
  intro j
  by_cases hj : j < H.length
  · rw [List.getElem?_take, if_pos hj, h.2 j hj (hs j hj)]
  · rw [List.getElem?_take, if_neg hj, List.getElem?_eq_none (by omega)]
theorem Same.get {S : Nat → Prop} {H H' : Heap} (h : Same S H H') {j : Nat} {b : Blk} (hb : H[j]? = some b) (hs : ¬ S j) : H'[j]? = some b := by
  rw [h.2 j (List.getElem?_eq_some_iff.1 hb).1 hs]; exact hb

/-- A list of n elements of e cells that the call holds alone. -/
def OL (e : Nat) (H : Heap) (id : Nat) (cs : List Value) (n : Nat) : Prop :=
  cs.length = n * e ∧ ((n = 0 ∧ ghostAt H id = true) ∨ H[id]? = some ⟨cs, true, true⟩)

theorem OL.lt {e : Nat} {H : Heap} {id : Nat} {cs : List Value} {n : Nat} (h : OL e H id cs n) : id < H.length := by
  rcases h.2 with ⟨_, h⟩ | h
  · obtain ⟨b, hb, _⟩ := ghostAt_inv h
    exact (List.getElem?_eq_some_iff.1 hb).1
  · exact (List.getElem?_eq_some_iff.1 h).1

theorem OL.at {e : Nat} {H : Heap} {id : Nat} {cs : List Value} {n : Nat} (h : OL e H id cs n) : At H id 0 cs := by
  rcases h.2 with ⟨h0, _⟩ | h'
  · left; subst h0; exact List.eq_nil_of_length_eq_zero (by simpa using h.1)
  · exact Holds.at ⟨true, h'⟩

theorem OL.ghost (e : Nat) (H : Heap) : OL e (H ++ [⟨[], false, false⟩]) H.length [] 0 :=
  ⟨by simp, .inl ⟨rfl, by simp [ghostAt]⟩⟩

theorem OL.keep {e : Nat} {H H' : Heap} {id : Nat} {cs : List Value} {n : Nat} (h : OL e H id cs n) {S : Nat → Prop} (hs : Same S H H') (hi : ¬ S id) : OL e H' id cs n := by
  refine ⟨h.1, ?_⟩
  rcases h.2 with ⟨h0, h'⟩ | h'
  · left
    obtain ⟨b, hb, h1, h2⟩ := ghostAt_inv h'
    refine ⟨h0, ?_⟩
    have := hs.get hb hi
    simp [ghostAt, this, h1, h2]
  · right; exact hs.get h' hi

/-- append to such a list. -/
theorem OL.append {e : Nat} {H : Heap} {id : Nat} {cs : List Value} {n : Nat} (h : OL e H id cs n) (he : 0 < e) {m : Nat} (hm : 0 < m) {news : List Value} (hn : news.length = m * e) :
    ∃ H', appendH H e (lv e id 0 n) m news = some (lv e H.length 0 (n + m), H') ∧ OL e H' H.length (cs ++ news) (n + m) ∧ Same (fun j => j = id) H H' ∧ H'.length = H.length + 1 := by
  rcases h.2 with ⟨h0, hg⟩ | hb
  · subst h0
    have : cs = [] := List.eq_nil_of_length_eq_zero (by simpa using h.1)
    subst this
    refine ⟨H ++ [⟨news, true, true⟩], ?_, ⟨by simpa using hn, .inr (by simp)⟩, Same.of_prefix (List.prefix_append _ _), by simp⟩
    simp [appendH, show ¬ m = 0 by omega, he, hg]
  · have hc : cellsAt H id 0 (n * e) = some cs := by rw [← h.1, cellsAt_of hb rfl (by simp)]; simp
    have hown : ownAt H id = true := by simp [ownAt, hb]
    have hng : ghostAt H id = false := by simp [ghostAt, hb]
    refine ⟨H.kill id ++ [⟨cs ++ news, true, true⟩], ?_, ⟨by simp [h.1, hn, Nat.add_mul], .inr (by rw [List.getElem?_append_right (by rw [Heap.kill_length]; exact Nat.le_refl _), Heap.kill_length]; simp)⟩, ⟨by simp [Heap.kill_length], fun j hj hs => ?_⟩, by simp [Heap.kill_length]⟩
    · simp [appendH, show ¬ m = 0 by omega, hown, hng, hc]
    · rw [List.getElem?_append_left (by rw [Heap.kill_length]; exact hj)]
      unfold Heap.kill
      rw [hb]
      exact List.getElem?_set_ne (fun e => hs e.symm)

/-- 'append(s, x)': the text builds a slice of one element first. -/
theorem OL.push {e : Nat} {H : Heap} {id : Nat} {cs : List Value} {n : Nat} (h : OL e H id cs n) (he : 0 < e) {xs : List Value} (hx : xs.length = e) :
    cellsAt (H ++ [⟨xs, true, true⟩]) H.length 0 e = some xs ∧ ∃ H', appendH (H ++ [⟨xs, true, true⟩]) e (lv e id 0 n) 1 xs = some (lv e (H.length + 1) 0 (n + 1), H') ∧ OL e H' (H.length + 1) (cs ++ xs) (n + 1) ∧ Same (fun j => j = id) H H' ∧ H'.length = H.length + 2 := by
  have hid := h.lt
  have hk : OL e (H ++ [⟨xs, true, true⟩]) id cs n := h.keep (S := fun _ => False) (Same.of_prefix (List.prefix_append _ _)) (fun hh => hh)
  obtain ⟨H', h1, h2, h3, h4⟩ := hk.append he (m := 1) (by omega) (news := xs) (by simpa using hx)
  refine ⟨?_, H', by simpa using h1, by simpa using h2, ?_, by simpa using h4⟩
  · rw [cellsAt_of (b := ⟨xs, true, true⟩) (by simp) rfl (by simp [hx])]
    simp [← hx]
  · exact (Same.of_prefix (S := fun j => j = id) (List.prefix_append H [⟨xs, true, true⟩])).trans h3

theorem Up.tuple {H : Heap} {xs ys : Array Value} (h : Ups H xs.toList ys.toList) : Up H (.tuple xs) (.tuple ys) := by
  intro B w0 ρ w cv hR hv
  obtain ⟨zs, rfl, hz⟩ := hv.tuple_inv
  exact VR.tuple_of (h.vrs hR hz)

/-- The result may be said less of. -/
theorem ACalls.res {P : Program} {f : FuncId} {args : List Value} {H : Heap} {Post : Value → Heap → Prop} (h : ACalls P f args H fun v H' => ∃ v', Up H' v v' ∧ Post v' H') : ACalls P f args H Post :=
  ⟨h.1, fun B w0 ρ w cargs hR hv => (h.2 B w0 ρ w cargs hR hv).mono fun e w' hp => by
    obtain ⟨ρ', H', v, cv, h1, h2, h3, h4, v', h5, h6⟩ := hp
    exact ⟨ρ', H', v', cv, h1, h2, h3, h5 _ _ _ _ _ h3 h4, h6⟩⟩

theorem ACalls.addGhost {P : Program} {f : FuncId} {args : List Value} {H : Heap} {Post : Value → Heap → Prop} (h : ACalls P f args (H ++ [⟨[], false, false⟩]) Post) : ACalls P f args H Post :=
  ⟨h.1, fun B w0 ρ w cargs hR hv => (h.2 B w0 _ w cargs hR.addGhost (hv.mono (List.prefix_append _ _))).mono fun e w' hp => by
    obtain ⟨ρ', H', v, cv, h1, h2, h3⟩ := hp
    exact ⟨ρ', H', v, cv, h1, (List.prefix_append _ _).trans h2, h3⟩⟩

/-- The numbers from k on. -/
def upFrom (k : Int) (n : Nat) : List Int := (List.range n).map fun j : Nat => k + (j : Int)

theorem upFrom_length (k : Int) (n : Nat) : (upFrom k n).length = n := by simp [upFrom]
/-- Lists of numbers that the call holds alone, each by its block. -/
def Rows1 (H : Heap) (rows : List (Nat × List Int)) : Prop :=
  (∀ r ∈ rows, r.2 = [] ∨ H[r.1]? = some ⟨ints r.2, true, true⟩) ∧ ∀ (a b : Nat) (r t : Nat × List Int), rows[a]? = some r → rows[b]? = some t → a ≠ b → r.2 ≠ [] → t.2 ≠ [] → r.1 ≠ t.1

def rowVal (r : Nat × List Int) : Value := lv 1 r.1 0 r.2.length

/-- A list of such lists. -/
def OwnRows (H : Heap) (v : Value) (rows : List (Nat × List Int)) : Prop :=
  ∃ id, v = lv 1 id 0 rows.length ∧ At H id 0 (rows.map rowVal) ∧ Rows1 H rows ∧ (∀ r ∈ rows, r.2 ≠ [] → r.1 ≠ id) ∧ rows.length ≤ 140737488355328 ∧ ∀ r ∈ rows, r.2.length ≤ 140737488355328

/-- A list of lists of numbers, to be read. -/
def IntssAt (H : Heap) (v : Value) (xss : List (List Int)) : Prop :=
  ∃ (i o : Nat) (vs : List Value), v = lv 1 i o xss.length ∧ vs.length = xss.length ∧ At H i o vs ∧ (∀ (k : Nat) (u : Value) (xs : List Int), vs[k]? = some u → xss[k]? = some xs → IntsAt H u xs) ∧ xss.length ≤ 140737488355328

theorem IntssAt.pre {H H' : Heap} (hp : H <+: H') {v : Value} {xss : List (List Int)} (h : IntssAt H v xss) : IntssAt H' v xss := by
  obtain ⟨i, o, vs, h1, h2, h3, h4, h5⟩ := h
  exact ⟨i, o, vs, h1, h2, h3.pre hp, fun k u xs a b => (h4 k u xs a b).pre hp, h5⟩

theorem OwnRows.read {H : Heap} {v : Value} {rows : List (Nat × List Int)} (h : OwnRows H v rows) : IntssAt H v (rows.map (·.2)) := by
  obtain ⟨id, h1, h2, h3, h4, h5, h6⟩ := h
  refine ⟨id, 0, rows.map rowVal, by simpa using h1, by simp, h2, ?_, by simpa using h5⟩
  intro k u xs hu hx
  simp only [List.getElem?_map, Option.map_eq_some_iff] at hu hx
  obtain ⟨r, hr, rfl⟩ := hu
  obtain ⟨r', hr', rfl⟩ := hx
  rw [hr] at hr'; cases hr'
  have hm := List.mem_of_getElem? hr
  refine ⟨r.1, 0, rfl, ?_, h6 r hm⟩
  rcases h3.1 r hm with h | h
  · left; simp [h, ints]
  · exact Holds.at ⟨true, h⟩

/-- How many numbers stand ahead of the list s. -/
def off (xss : List (List Int)) (s : Nat) : Nat := (xss.take s).flatten.length

theorem off_succ {xss : List (List Int)} {s : Nat} {xs : List Int} (h : xss[s]? = some xs) : off xss (s + 1) = off xss s + xs.length := by
  obtain ⟨hlt, he⟩ := List.getElem?_eq_some_iff.1 h
  simp only [off, List.take_succ_eq_append_getElem hlt, List.flatten_append, List.length_append, he]
  simp
theorem off_all (xss : List (List Int)) : off xss xss.length = xss.flatten.length := by simp [off]
theorem off_le (xss : List (List Int)) (s : Nat) : off xss s ≤ xss.flatten.length := by
  unfold off
  conv => rhs; rw [← List.take_append_drop s xss]
  simp only [List.flatten_append, List.length_append]
  omega
theorem off_le' {xss : List (List Int)} {s : Nat} {xs : List Int} (h : xss[s]? = some xs) : off xss s + xs.length ≤ xss.flatten.length := by
  rw [← off_succ h]; exact off_le _ _

/-- The lists, each number in place of what was there. -/
def marked : Int → List (List Int) → List (List Int)
  | _, [] => []
  | k, xs :: xss => upFrom k xs.length :: marked (k + (xs.length : Int)) xss

theorem marked_length : ∀ (k : Int) (xss : List (List Int)), (marked k xss).length = xss.length
  | _, [] => rfl
  | k, xs :: xss => by simp [marked, marked_length]
theorem marked_off (k : Int) (xss : List (List Int)) (s : Nat) : off (marked k xss) s = off xss s := by
  induction xss generalizing k s with
  | nil => simp [marked]
  | cons xs xss ih =>
    cases s with
    | zero => simp [off]
    | succ s =>
      have := ih (k + (xs.length : Int)) s
      simp only [off, marked, List.take_succ_cons, List.flatten_cons, List.length_append, upFrom_length] at this ⊢
      omega
theorem marked_total (k : Int) (xss : List (List Int)) : (marked k xss).flatten.length = xss.flatten.length := by
  rw [← off_all, ← off_all, marked_off, marked_length]

/-- A list of lists while it is built. -/
structure Build (H0 H : Heap) (oid : Nat) (rows : List (Nat × List Int)) : Prop where
  pre : H0 <+: H
  ol : OL 1 H oid (rows.map rowVal) rows.length
  ge : H0.length ≤ oid
  rows1 : Rows1 H rows
  ids : ∀ r ∈ rows, H0.length ≤ r.1 ∧ r.1 < H.length ∧ r.1 ≠ oid

theorem Build.start (H : Heap) : Build H (H ++ [⟨[], false, false⟩]) H.length [] :=
  ⟨List.prefix_append _ _, OL.ghost 1 H, Nat.le_refl _, ⟨by simp, by simp⟩, by simp⟩

theorem Build.of_ol {H0 H : Heap} {oid : Nat} (hp : H0 <+: H) (h : OL 1 H oid [] 0) (hg : H0.length ≤ oid) : Build H0 H oid [] :=
  ⟨hp, h, hg, ⟨by simp, by simp⟩, by simp⟩

theorem Build.push {H0 H1 H2 : Heap} {oid rid : Nat} {rows : List (Nat × List Int)} {xs : List Int} (h : Build H0 H1 oid rows) (hp : H1 <+: H2) (hr : OL 1 H2 rid (ints xs) xs.length) (hrid : H1.length ≤ rid) :
    cellsAt (H2 ++ [⟨[lv 1 rid 0 xs.length], true, true⟩]) H2.length 0 1 = some [lv 1 rid 0 xs.length] ∧
    ∃ H4, appendH (H2 ++ [⟨[lv 1 rid 0 xs.length], true, true⟩]) 1 (lv 1 oid 0 rows.length) 1 [lv 1 rid 0 xs.length] = some (lv 1 (H2.length + 1) 0 (rows.length + 1), H4) ∧ Build H0 H4 (H2.length + 1) (rows ++ [(rid, xs)]) := by
  have hol' : OL 1 H2 oid (rows.map rowVal) rows.length := h.ol.keep (S := fun _ => False) (Same.of_prefix hp) (fun h => h)
  obtain ⟨hsrc, H4, hap, hol4, hsame4, hlen4⟩ := hol'.push (xs := [lv 1 rid 0 xs.length]) (by omega) rfl
  have hoid := h.ol.lt
  have hle := hp.length_le
  have hle0 := h.pre.length_le
  have hlt := hr.lt
  refine ⟨hsrc, H4, hap, ⟨(show Same (fun j => j = oid) H0 H4 from (Same.of_prefix (h.pre.trans hp)).trans hsame4).prefix (by have := h.ge; omega), by simpa [rowVal] using hol4, by omega, ⟨?_, ?_⟩, ?_⟩⟩
  · intro r hm
    rcases List.mem_append.1 hm with hm | hm
    · refine (h.rows1.1 r hm).imp (fun h => h) fun hb => ?_
      exact hsame4.get (Same.get (S := fun _ => False) (Same.of_prefix hp) hb (fun h => h)) (h.ids r hm).2.2
    · simp at hm; subst hm
      rcases hr.2 with ⟨h0, _⟩ | h0
      · exact .inl (List.eq_nil_of_length_eq_zero h0)
      · right
        exact hsame4.get h0 (by simp only; omega)
  · intro a b r t ha hb hab hrn htn
    have key : ∀ (a : Nat) (r : Nat × List Int), (rows ++ [(rid, xs)])[a]? = some r → (a < rows.length ∧ rows[a]? = some r) ∨ (a = rows.length ∧ r = (rid, xs)) := by
      intro a r ha
      rcases Nat.lt_or_ge a rows.length with h | h
      · rw [List.getElem?_append_left h] at ha; exact .inl ⟨h, ha⟩
      · rw [List.getElem?_append_right h] at ha
        cases hk : a - rows.length with
        | zero => rw [hk] at ha; simp at ha; exact .inr ⟨by omega, ha.symm⟩
        | succ k => rw [hk] at ha; simp at ha
    rcases key a r ha with ⟨h1, h1'⟩ | ⟨h1, rfl⟩
    · rcases key b t hb with ⟨h2, h2'⟩ | ⟨h2, rfl⟩
      · exact h.rows1.2 a b r t h1' h2' hab hrn htn
      · have := (h.ids r (List.mem_of_getElem? h1')).2.1; simp only; omega
    · rcases key b t hb with ⟨h2, h2'⟩ | ⟨h2, rfl⟩
      · have := (h.ids t (List.mem_of_getElem? h2')).2.1; simp only; omega
      · omega
  · intro r hm
    rcases List.mem_append.1 hm with hm | hm
    · have := h.ids r hm
      omega
    · simp at hm; subst hm; simp only; omega

theorem Build.own {H0 H : Heap} {oid : Nat} {rows : List (Nat × List Int)} (h : Build H0 H oid rows) (hl : rows.length ≤ 140737488355328) (hls : ∀ r ∈ rows, r.2.length ≤ 140737488355328) : OwnRows H (lv 1 oid 0 rows.length) rows :=
  ⟨oid, rfl, h.ol.at, h.rows1, fun r hr _ => (h.ids r hr).2.2, hl, hls⟩

theorem OwnRows.keep {H H' : Heap} (hp : H <+: H') {v : Value} {rows : List (Nat × List Int)} (h : OwnRows H v rows) : OwnRows H' v rows := by
  obtain ⟨id, h1, h2, h3, h4, h5, h6⟩ := h
  refine ⟨id, h1, h2.pre hp, ⟨fun r hr => (h3.1 r hr).imp (fun h => h) fun hb => ?_, h3.2⟩, h4, h5, h6⟩
  exact Same.get (S := fun _ => False) (Same.of_prefix hp) hb (fun h => h)

theorem OwnRows.nil (H : Heap) : OwnRows H (lv 1 0 0 0) [] := ⟨0, rfl, .inl rfl, ⟨by simp, by simp⟩, by simp, by simp, by simp⟩

end Go.Ab
end

section
/- Blocks of three numbers and lists of them in the abstract heap; memory at the heap's end. No statement of the seat is proved here; it holds for every program. -/
set_option linter.all false
namespace Go.Ab

/-! Memory at the heap's end, for simp. -/

def cellsB (b : Option Blk) (o n : Nat) : Option (List Value) :=
  match b with
  | some b => if b.live = true ∧ o + n ≤ b.cells.length then some ((b.cells.drop o).take n) else none
  | none => none
theorem cellsAt_end0 (H L : Heap) (o n : Nat) : cellsAt (H ++ L) H.length o n = cellsB L[0]? o n := by
  have : (H ++ L)[H.length]? = L[0]? := by rw [List.getElem?_append_right (Nat.le_refl _)]; simp
  unfold cellsAt cellsB; rw [this]; rfl
theorem cellsAt_endk (H L : Heap) (k o n : Nat) : cellsAt (H ++ L) (H.length + k) o n = cellsB L[k]? o n := by
  have : (H ++ L)[H.length + k]? = L[k]? := by rw [List.getElem?_append_right (by omega)]; simp
  unfold cellsAt cellsB; rw [this]; rfl
def storeB (H L : Heap) (k o : Nat) (vs : List Value) (b : Option Blk) : Option Heap :=
  match b with
  | some b => if b.live = true ∧ b.own = true ∧ o + vs.length ≤ b.cells.length ∧ vs.all Value.oneCell' = true then some (H ++ L.set k { b with cells := over b.cells o vs }) else none
  | none => none
theorem storeAt_end0 (H L : Heap) (o : Nat) (vs : List Value) : storeAt (H ++ L) H.length o vs = storeB H L 0 o vs L[0]? := by
  have : (H ++ L)[H.length]? = L[0]? := by rw [List.getElem?_append_right (Nat.le_refl _)]; simp
  unfold storeAt storeB; rw [this]
  cases L[0]? with
  | none => rfl
  | some b =>
    simp only
    rw [List.set_append_right _ _ (Nat.le_refl _), Nat.sub_self]
theorem storeAt_endk (H L : Heap) (k o : Nat) (vs : List Value) : storeAt (H ++ L) (H.length + k) o vs = storeB H L k o vs L[k]? := by
  have : (H ++ L)[H.length + k]? = L[k]? := by rw [List.getElem?_append_right (by omega)]; simp
  unfold storeAt storeB; rw [this]
  cases L[k]? with
  | none => rfl
  | some b =>
    simp only
    rw [List.set_append_right _ _ (by omega), Nat.add_sub_cancel_left]

attribute [go_sem] cellsB cellsAt_end0 cellsAt_endk storeB storeAt_end0 storeAt_endk over srcCells

/-- A block. -/
structure Bk where
  a : Int
  b : Int
  c : Int
deriving DecidableEq

def Bk.cells (b : Bk) : List Value := [.int .i64 b.a, .int .i64 b.b, .int .i64 b.c]
def Bk.val (b : Bk) : Value := .agg #[.int .i64 b.a, .int .i64 b.b, .int .i64 b.c]
def tri (bs : List Bk) : List Value := bs.flatMap Bk.cells

theorem tri_cons (b : Bk) (bs : List Bk) : tri (b :: bs) = b.cells ++ tri bs := by simp [tri]
theorem tri_append (bs cs : List Bk) : tri (bs ++ cs) = tri bs ++ tri cs := by simp [tri]
theorem tri_one (b : Bk) : tri [b] = b.cells := by simp [tri]
theorem tri_length (bs : List Bk) : (tri bs).length = bs.length * 3 := by
  induction bs with
  | nil => rfl
  | cons b bs ih => rw [tri_cons, List.length_append, ih]; simp [Bk.cells]; omega
theorem tri_cut {bs : List Bk} : ∀ {s : Nat} {b : Bk}, bs[s]? = some b → ((tri bs).drop (s * 3)).take 3 = b.cells := by
  induction bs with
  | nil => intro s b h; simp at h
  | cons d bs ih =>
    intro s b h
    cases s with
    | zero => simp at h; subst h; rw [tri_cons]; simp [Bk.cells]
    | succ s =>
      have := ih (s := s) (b := b) (by simpa using h)
      rw [tri_cons, show (s + 1) * 3 = d.cells.length + s * 3 by simp [Bk.cells]; omega, List.drop_append, List.drop_eq_nil_of_le (by omega), List.nil_append, Nat.add_sub_cancel_left]
      exact this

theorem At.bk {H : Heap} {i o : Nat} {bs : List Bk} (h : At H i o (tri bs)) {s : Nat} {b : Bk} (hb : bs[s]? = some b) : cellsAt H i (o + s * 3) 3 = some b.cells := by
  have hlt := (List.getElem?_eq_some_iff.1 hb).1
  rw [h.sub (by omega) (by rw [tri_length]; omega), tri_cut hb]

/-- A slice of blocks. -/
def BlocksAt (H : Heap) (v : Value) (bs : List Bk) : Prop := ∃ i o, v = lv 3 i o bs.length ∧ At H i o (tri bs) ∧ bs.length ≤ 140737488355328

theorem BlocksAt.pre {H H' : Heap} (hp : H <+: H') {v : Value} {bs : List Bk} (h : BlocksAt H v bs) : BlocksAt H' v bs := by
  obtain ⟨i, o, h1, h2, h3⟩ := h
  exact ⟨i, o, h1, h2.pre hp, h3⟩

theorem one_int (k : IntKind) (n : Int) : (Value.int k n).oneCell' = true := rfl
theorem one_bool (b : Bool) : (Value.bool b).oneCell' = true := rfl
theorem one_str (s : ByteArray) : (Value.string s).oneCell' = true := rfl
theorem one_slice (a : Option Addr) (n c : Nat) : (Value.slice a n c).oneCell' = true := rfl
theorem one_ptr (a : Option Addr) : (Value.pointer a).oneCell' = true := rfl
theorem one_func (f : Fn) (az bs : Array Value) : (Value.func f az bs).oneCell' = true := rfl
attribute [go_sem] one_int one_bool one_str one_slice one_ptr one_func
theorem IntsAt.one {H : Heap} {v : Value} {xs : List Int} (h : IntsAt H v xs) : v.oneCell' = true := by obtain ⟨i, o, rfl, _⟩ := h; rfl
theorem BlocksAt.one {H : Heap} {v : Value} {bs : List Bk} (h : BlocksAt H v bs) : v.oneCell' = true := by obtain ⟨i, o, rfl, _⟩ := h; rfl

/-- A system's value. -/
def sysV (p : Int) (v : Value) : Value := .agg #[.int .i64 p, v]

theorem tri_over : ∀ {xs : List Bk} {s : Nat} {b : Bk}, s < xs.length → over (tri xs) (s * 3) b.cells = tri (xs.set s b)
  | [], s, b, h => by simp at h
  | d :: xs, 0, b, h => by
    simp only [tri_cons, List.set_cons_zero]
    simp [over, Bk.cells]
  | d :: xs, s + 1, b, h => by
    have ih := tri_over (xs := xs) (s := s) (b := b) (by simpa using h)
    simp only [tri_cons, List.set_cons_succ]
    rw [← ih]
    have e : (s + 1) * 3 = d.cells.length + s * 3 := by simp [Bk.cells]; omega
    simp only [over, e]
    rw [List.take_append, List.take_of_length_le (by omega), Nat.add_sub_cancel_left, Nat.add_assoc, List.drop_append, List.drop_eq_nil_of_le (by omega), List.nil_append, Nat.add_sub_cancel_left]
    simp

theorem made_same {z : Array Value} {v : Value} (hz : 0 < z.size) (h : ∀ i, i < z.size → z[i]? = some v) (n : Nat) : (madeCells z n).toList = List.replicate n v := by
  apply List.ext_getElem?
  intro i
  simp only [madeCells, Array.toList_map, List.getElem?_map, Array.toList_range]
  by_cases hi : i < n
  · rw [List.getElem?_range hi, List.getElem?_replicate, if_pos hi]
    have := h (i % z.size) (Nat.mod_lt _ hz)
    simp [Array.getElem!_eq_getD, Array.getD_eq_getD_getElem?, this]
  · rw [List.getElem?_eq_none (by simp; omega), List.getElem?_replicate, if_neg hi]; rfl

/-- A slice of blocks that the call holds alone. -/
def OwnBlocks (H : Heap) (v : Value) (id : Nat) (bs : List Bk) : Prop := v = lv 3 id 0 bs.length ∧ (bs = [] ∨ H[id]? = some ⟨tri bs, true, true⟩) ∧ bs.length ≤ 140737488355328

theorem OwnBlocks.read {H : Heap} {v : Value} {id : Nat} {bs : List Bk} (h : OwnBlocks H v id bs) : BlocksAt H v bs := by
  obtain ⟨h1, h2, h3⟩ := h
  refine ⟨id, 0, h1, ?_, h3⟩
  rcases h2 with rfl | h2
  · exact .inl rfl
  · exact Holds.at ⟨true, h2⟩

theorem storeBk {H : Heap} {id s : Nat} {xs : List Bk} {b : Bk} (h : H[id]? = some ⟨tri xs, true, true⟩) (hs : s < xs.length) : storeAt H id (s * 3) b.cells = some (H.set id ⟨tri (xs.set s b), true, true⟩) := by
  rw [storeAt_of h rfl rfl (by simp only [tri_length]; simp [Bk.cells]; omega) (by simp [Bk.cells, Value.oneCell']), tri_over hs]

theorem OwnBlocks.keep {H H' : Heap} {v : Value} {id : Nat} {bs : List Bk} (h : OwnBlocks H v id bs) {S : Nat → Prop} (hs : Same S H H') (hi : ¬ S id) : OwnBlocks H' v id bs := by
  obtain ⟨h1, h2, h3⟩ := h
  exact ⟨h1, h2.imp (fun h => h) fun hb => hs.get hb hi, h3⟩

theorem Same.set {H : Heap} {i : Nat} {b : Blk} : Same (fun j => j = i) H (H.set i b) :=
  ⟨by simp, fun _ _ hs => List.getElem?_set_ne (fun e => hs e.symm)⟩

end Go.Ab
end

section
/- SquareOf, of the program and of the specification: what each computes. They hold for every number. -/
set_option linter.all false
set_option maxRecDepth 20000
namespace Go.Proofs.Ytfnegaedkomcgaa
open Go.Ab

theorem within_ok {H : Heap} {n lo hi : Int} (Post : Value → Heap → Prop) (h : Post (.bool (decide (lo ≤ n) && decide (n ≤ hi))) H) :
    ACalls Try.prog 28 [.int .i64 n, .int .i64 lo, .int .i64 hi] H Post := by
  refine acalls_vc (rs := [.tmp 6]) Try.func28 rfl rfl Try.ntmps28 rfl rfl ?_
  simp (maxSteps := 1000000) [go_sem]
  refine condK_intro (fun h1 => ?_) (fun h1 => ?_) <;> simp_all

theorem l01In_ok {H : Heap} {n lo hi : Int} (Post : Value → Heap → Prop) (h : Post (.bool (decide (lo ≤ n) && decide (n ≤ hi))) H) :
    ACalls Try.prog 36 [.int .i64 n, .int .i64 lo, .int .i64 hi] H Post := by
  refine acalls_vc (rs := [.tmp 6]) Try.func36 rfl rfl Try.ntmps36 rfl rfl ?_
  simp (maxSteps := 1000000) [go_sem]
  refine condK_intro (fun h1 => ?_) (fun h1 => ?_) <;> simp_all

/-- One number of the square. -/
def sqCell (n x y : Nat) : Int :=
  let s := (x + y) % n
  if s % 2 = 0 then ((s / 2 : Nat) : Int) else if n % 2 = 0 then (((s + n - 1) / 2 : Nat) : Int) else (((s + n) / 2 : Nat) : Int)
def sqRow (n x y : Nat) : List Int := (List.range y).map (sqCell n x)
def sqRows (n x : Nat) : List (List Int) := (List.range x).map fun x => sqRow n x n

theorem sqRow_length (n x y : Nat) : (sqRow n x y).length = y := by simp [sqRow]
theorem sqRows_length (n x : Nat) : (sqRows n x).length = x := by simp [sqRows]
theorem sqRow_succ (n x y : Nat) : sqRow n x (y + 1) = sqRow n x y ++ [sqCell n x y] := by simp [sqRow, List.range_succ]
theorem sqRows_succ (n x : Nat) : sqRows n (x + 1) = sqRows n x ++ [sqRow n x n] := by simp [sqRows, List.range_succ]

theorem implSquareOf_ok {H : Heap} {n : Int} (Post : Value → Heap → Prop) (hbad : ¬ (2 ≤ n ∧ n ≤ 5) → Post (.tuple #[lv 1 0 0 0, .int .i64 2]) H)
    (hgood : ∀ (H' : Heap) (v : Value) (rows : List (Nat × List Int)), 2 ≤ n → n ≤ 5 → H <+: H' → OwnRows H' v rows → (∀ r ∈ rows, H.length ≤ r.1) → rows.map (·.2) = sqRows n.toNat n.toNat → Post (.tuple #[v, .int .i64 0]) H') :
    ACalls Try.prog 15 [.int .i64 n] H Post := by
  refine ACalls.res ?_
  refine acalls_vc (rs := [.tmp 2, .tmp 3]) Try.func15 rfl rfl Try.ntmps15 rfl rfl ?_
  simp (maxSteps := 1000000) [go_sem]
  refine within_ok _ ?_
  simp (maxSteps := 1000000) [go_sem]
  refine condK_intro (fun h => ?_) (fun h => ?_)
  · refine ⟨_, Up.tuple (ys := #[lv 1 0 0 0, .int .i64 2]) ⟨Up.nil _ _ _ _, Up.refl _ _, trivial⟩, hbad (by simp at h; omega)⟩
  · have h2 : 2 ≤ n ∧ n ≤ 5 := by simpa using h
    obtain ⟨m, rfl⟩ : ∃ m : Nat, n = m := ⟨n.toNat, by omega⟩
    refine AWp.addGhost ?_
    refine AWp.loopVc (St := Nat × Nat × List (Nat × List Int)) (fun s => [(0, .int .i64 m), (12, .int .i64 m), (4, lv 1 s.2.1 0 s.1), (13, .int .i64 s.1)])
      (fun s H' => s.1 ≤ m ∧ H <+: H' ∧ OL 1 H' s.2.1 (s.2.2.map rowVal) s.1 ∧ H.length ≤ s.2.1 ∧ s.2.2.map (·.2) = sqRows m s.1 ∧ Rows1 H' s.2.2 ∧ ∀ r ∈ s.2.2, H.length ≤ r.1 ∧ r.1 ≠ s.2.1) (fun s => m - s.1) (0, H.length, []) ?_ ?_ ?_
    · simp [upF, Fr.get, Up.refl, Up.nil]
    · refine ⟨by omega, List.prefix_append _ _, OL.ghost 1 H, Nat.le_refl _, by simp [sqRows], ⟨by simp, by simp⟩, by simp⟩
    · rintro K ⟨x, oid, rows⟩ H1 ⟨hx, hpre, hol, hoid, hcont, hrows, hids⟩ hK
      simp only at hx hpre hol hoid hcont hrows hids
      by_cases hlt : x < m
      · simp (maxSteps := 1000000) [go_sem, hlt]
        refine AWp.addGhost ?_
        refine AWp.loopVc (St := Nat × Nat) (fun s => [(0, .int .i64 m), (4, lv 1 oid 0 x), (5, .int .i64 x), (12, .int .i64 m), (13, .int .i64 x), (16, .int .i64 m), (6, lv 1 s.2 0 s.1), (17, .int .i64 s.1)])
          (fun s H' => s.1 ≤ m ∧ H1 <+: H' ∧ OL 1 H' s.2 (ints (sqRow m x s.1)) s.1 ∧ H1.length ≤ s.2) (fun s => m - s.1) (0, H1.length) ?_ ?_ ?_
        · simp [upF, Fr.get, Up.refl, Up.nil]
        · exact ⟨by omega, List.prefix_append _ _, OL.ghost 1 H1, Nat.le_refl _⟩
        · rintro K2 ⟨y, rid⟩ H2 ⟨hy, hpre2, hol2, hrid⟩ hK2
          simp only at hy hpre2 hol2 hrid
          by_cases hly : y < m
          · obtain ⟨hsrc, H3, hap, hol3, hsame3, hlen3⟩ := hol2.push (xs := [.int .i64 (sqCell m x y)]) (by omega) rfl
            obtain ⟨t, ht⟩ : ∃ t, t = (x + y) % m := ⟨_, rfl⟩
            have hm0 : ¬ m = 0 := by omega
            have ht5 : t < m := by rw [ht]; exact Nat.mod_lt _ (by omega)
            have hw1 : (IntKind.i64.wrap ((x : Int) + (y : Int))).tmod (m : Int) = (t : Int) := by
              rw [i64w (by omega) (by omega), ht]
              rw [Int.tmod_eq_emod_of_nonneg (by omega), Int.natCast_emod, Int.natCast_add]
            have hw2 : IntKind.i64.wrap ((y : Int) + 1) = (y : Int) + 1 := i64w (by omega) (by omega)
            have hw3 : ((t : Int).tmod 2 == 0) = decide (t % 2 = 0) := by
              rw [Int.tmod_eq_emod_of_nonneg (by omega)]
              apply Bool.eq_iff_iff.2
              simp; omega
            have hw4 : ((m : Int).tmod 2 == 0) = decide (m % 2 = 0) := by
              rw [Int.tmod_eq_emod_of_nonneg (by omega)]
              apply Bool.eq_iff_iff.2
              simp; omega
            have hpre3 : H1 <+: H3 := (show Same (fun j => j = rid) H1 H3 from (Same.of_prefix hpre2).trans hsame3).prefix (by omega)
            have fin : ∀ fr', upF H3 [(0, .int .i64 m), (4, lv 1 oid 0 x), (5, .int .i64 x), (12, .int .i64 m), (13, .int .i64 x), (16, .int .i64 m), (6, lv 1 (H2.length + 1) 0 (y + 1)), (17, .int .i64 ((y : Int) + 1))] fr' → K2 fr' H3 := by
              intro fr' hf
              refine hK2 (y + 1, H2.length + 1) fr' H3 (by simp only; omega) (by simpa using hf) ⟨by simp only; omega, hpre3, ?_, ?_⟩
              · rw [sqRow_succ, ← ints_append]; exact hol3
              · have := hpre2.length_le; simp only; omega
            by_cases h1 : t % 2 = 0
            · have hv : IntKind.i64.wrap ((t : Int) / 2) = sqCell m x y := by
                rw [i64w (by omega) (by omega)]
                simp only [sqCell, ← ht, h1, if_true]; omega
              simp (maxSteps := 1000000) [go_sem, hly, srcCells, hm0, hw1, hw2, hw3, h1, hv, hsrc, hap, Value.oneCell']
              refine andK_intro (by omega) (fin _ ?_)
              simp [upF, Fr.get, Up.refl]
            · by_cases h2' : m % 2 = 0
              · have hv : IntKind.i64.wrap ((IntKind.i64.wrap (IntKind.i64.wrap ((t : Int) + (m : Int)) - 1)).tdiv 2) = sqCell m x y := by
                  rw [i64w (n := (t : Int) + (m : Int)) (by omega) (by omega), i64w (n := (t : Int) + (m : Int) - 1) (by omega) (by omega), Int.tdiv_eq_ediv_of_nonneg (by omega), i64w (by omega) (by omega)]
                  simp only [sqCell, ← ht, h1, h2', if_true, if_false]; omega
                simp (maxSteps := 1000000) [go_sem, hly, srcCells, hm0, hw1, hw2, hw3, hw4, h1, h2', hv, hsrc, hap, Value.oneCell']
                refine andK_intro (by omega) (fin _ ?_)
                simp [upF, Fr.get, Up.refl]
              · have hv : IntKind.i64.wrap ((IntKind.i64.wrap ((t : Int) + (m : Int))).tdiv 2) = sqCell m x y := by
                  rw [i64w (n := (t : Int) + (m : Int)) (by omega) (by omega), Int.tdiv_eq_ediv_of_nonneg (by omega), i64w (by omega) (by omega)]
                  simp only [sqCell, ← ht, h1, h2', if_false]; omega
                simp (maxSteps := 1000000) [go_sem, hly, srcCells, hm0, hw1, hw2, hw3, hw4, h1, h2', hv, hsrc, hap, Value.oneCell']
                refine andK_intro (by omega) (fin _ ?_)
                simp [upF, Fr.get, Up.refl]
          · have : y = m := by omega
            subst this
            have hol' : OL 1 H2 oid (rows.map rowVal) x := hol.keep (S := fun _ => False) (Same.of_prefix hpre2) (fun h => h)
            obtain ⟨hsrc, H4, hap, hol4, hsame4, hlen4⟩ := hol'.push (xs := [lv 1 rid 0 y]) (by omega) rfl
            have hw2 : IntKind.i64.wrap ((x : Int) + 1) = (x : Int) + 1 := i64w (by omega) (by omega)
            simp (maxSteps := 1000000) [go_sem, srcCells, hsrc, hap, Value.oneCell', hw2]
            have hoid1 := hol.lt
            have hle2 := hpre2.length_le
            have hrow : H2[rid]? = some ⟨ints (sqRow y x y), true, true⟩ := by
              rcases hol2.2 with ⟨h0, _⟩ | h0
              · omega
              · exact h0
            have hpre4 : H <+: H4 := (show Same (fun j => j = oid) H H4 from (Same.of_prefix (hpre.trans hpre2)).trans hsame4).prefix (by omega)
            refine andK_intro (by omega) (hK (x + 1, H2.length + 1, rows ++ [(rid, sqRow y x y)]) _ _ (by simp only; omega) (by simp [upF, Fr.get, Up.refl]) ⟨by simp only; omega, hpre4, ?_, ?_, ?_, ⟨?_, ?_⟩, ?_⟩)
            · simpa [rowVal, sqRow_length] using hol4
            · have := hpre.length_le; simp only; omega
            · simp [hcont, sqRows_succ]
            · intro r hr
              rcases List.mem_append.1 hr with hr | hr
              · refine (hrows.1 r hr).imp (fun h => h) fun h => ?_
                exact hsame4.get (Same.get (S := fun _ => False) (Same.of_prefix hpre2) h (fun h => h)) (hids r hr).2
              · simp at hr; subst hr
                right
                exact hsame4.get hrow (by simp only; omega)
            · intro a b r t ha hb hab hr ht
              have key : ∀ (a : Nat) (r : Nat × List Int), (rows ++ [(rid, sqRow y x y)])[a]? = some r → (a < rows.length ∧ rows[a]? = some r) ∨ (a = rows.length ∧ r = (rid, sqRow y x y)) := by
                intro a r ha
                rcases Nat.lt_or_ge a rows.length with h | h
                · rw [List.getElem?_append_left h] at ha; exact .inl ⟨h, ha⟩
                · rw [List.getElem?_append_right h] at ha
                  cases hk : a - rows.length with
                  | zero => rw [hk] at ha; simp at ha; exact .inr ⟨by omega, ha.symm⟩
                  | succ k => rw [hk] at ha; simp at ha
              have old : ∀ r ∈ rows, r.2 ≠ [] → r.1 < H1.length := fun r hr hne => (List.getElem?_eq_some_iff.1 ((hrows.1 r hr).resolve_left hne)).1
              rcases key a r ha with ⟨h1, h1'⟩ | ⟨h1, rfl⟩
              · rcases key b t hb with ⟨h2, h2'⟩ | ⟨h2, rfl⟩
                · exact hrows.2 a b r t h1' h2' hab hr ht
                · have := old r (List.mem_of_getElem? h1') hr; simp only; omega
              · rcases key b t hb with ⟨h2, h2'⟩ | ⟨h2, rfl⟩
                · have := old t (List.mem_of_getElem? h2') ht; simp only; omega
                · omega
            · intro r hr
              have := hpre.length_le
              rcases List.mem_append.1 hr with hr | hr
              · refine ⟨(hids r hr).1, ?_⟩
                have h0 := hcont ▸ List.mem_map_of_mem (f := fun r : Nat × List Int => r.2) hr
                by_cases hne : r.2 = []
                · exfalso
                  simp only [sqRows, List.mem_map, List.mem_range] at h0
                  obtain ⟨q, _, hq⟩ := h0
                  have := congrArg List.length hq
                  rw [sqRow_length, hne] at this
                  simp at this; omega
                · have := (List.getElem?_eq_some_iff.1 ((hrows.1 r hr).resolve_left hne)).1
                  simp only; omega
              · simp at hr; subst hr; simp only
                have := hol2.lt
                omega
      · have : x = m := by omega
        subst this
        simp (maxSteps := 1000000) [go_sem]
        refine ⟨_, Up.refl _ _, hgood H1 _ rows h2.1 h2.2 hpre ⟨oid, ?_, hol.at, hrows, fun r hr _ => (hids r hr).2, ?_, ?_⟩ (fun r hr => (hids r hr).1) (by simpa using hcont)⟩
        · have := congrArg List.length hcont
          rw [List.length_map, sqRows_length] at this
          rw [this]
        · have := congrArg List.length hcont
          rw [List.length_map, sqRows_length] at this
          omega
        · intro r hr
          have h0 := hcont ▸ List.mem_map_of_mem (f := fun r : Nat × List Int => r.2) hr
          simp only [sqRows, List.mem_map, List.mem_range] at h0
          obtain ⟨q, _, hq⟩ := h0
          rw [← hq, sqRow_length]; omega

theorem l02Made_ok {H : Heap} {m : Nat} (h2 : 2 ≤ m) (h5 : m ≤ 5) (Post : Value → Heap → Prop)
    (hgood : ∀ (H' : Heap) (v : Value) (rows : List (Nat × List Int)), H <+: H' → OwnRows H' v rows → (∀ r ∈ rows, H.length ≤ r.1) → rows.map (·.2) = sqRows m m → Post v H') :
    ACalls Try.prog 37 [.int .i64 m] H Post := by
  refine ACalls.res ?_
  refine acalls_vc (rs := [.tmp 2]) Try.func37 rfl rfl Try.ntmps37 rfl rfl ?_
  simp (maxSteps := 1000000) [go_sem]
  refine AWp.loopVc (St := Nat × Nat × List (Nat × List Int)) (fun s => [(0, .int .i64 m), (3, lv 1 s.2.1 0 s.1), (4, .int .i64 s.1)])
    (fun s H' => s.1 ≤ m ∧ s.2.2.length = s.1 ∧ Build H H' s.2.1 s.2.2 ∧ s.2.2.map (·.2) = sqRows m s.1) (fun s => m - s.1) (0, H.length, []) ?_ ?_ ?_
  · simp [upF, Fr.get, Up.refl, Up.ex0]
  · exact ⟨by omega, rfl, Build.of_ol (List.prefix_append _ _) ⟨rfl, .inr (by simp)⟩ (Nat.le_refl _), by simp [sqRows]⟩
  · rintro K ⟨x, oid, rows⟩ H1 ⟨hx, hlen, hb, hcont⟩ hK
    simp only at hx hlen hb hcont
    by_cases hlt : x < m
    · simp (maxSteps := 1000000) [go_sem, hlt]
      refine AWp.loopVc (St := Nat × Nat) (fun s => [(0, .int .i64 m), (3, lv 1 oid 0 x), (4, .int .i64 x), (5, lv 1 s.2 0 s.1), (6, .int .i64 s.1)])
        (fun s H' => s.1 ≤ m ∧ H1 <+: H' ∧ OL 1 H' s.2 (ints (sqRow m x s.1)) s.1 ∧ H1.length ≤ s.2) (fun s => m - s.1) (0, H1.length) ?_ ?_ ?_
      · simp [upF, Fr.get, Up.refl, Up.ex0]
      · exact ⟨by omega, List.prefix_append _ _, ⟨rfl, .inr (by simp [sqRow, ints])⟩, Nat.le_refl _⟩
      · rintro K2 ⟨y, rid⟩ H2 ⟨hy, hpre2, hol2, hrid⟩ hK2
        simp only at hy hpre2 hol2 hrid
        by_cases hly : y < m
        · obtain ⟨hsrc, H3, hap, hol3, hsame3, hlen3⟩ := hol2.push (xs := [.int .i64 (sqCell m x y)]) (by omega) rfl
          obtain ⟨t, ht⟩ : ∃ t, t = (x + y) % m := ⟨_, rfl⟩
          have hm0 : ¬ m = 0 := by omega
          have ht5 : t < m := by rw [ht]; exact Nat.mod_lt _ (by omega)
          have hw1 : (IntKind.i64.wrap ((x : Int) + (y : Int))).tmod (m : Int) = (t : Int) := by
            rw [i64w (by omega) (by omega), ht]
            rw [Int.tmod_eq_emod_of_nonneg (by omega), Int.natCast_emod, Int.natCast_add]
          have hw2 : IntKind.i64.wrap ((y : Int) + 1) = (y : Int) + 1 := i64w (by omega) (by omega)
          have hw3 : ((t : Int).tmod 2 == 0) = decide (t % 2 = 0) := by
            rw [Int.tmod_eq_emod_of_nonneg (by omega)]
            apply Bool.eq_iff_iff.2
            simp; omega
          have hw4 : ((m : Int).tmod 2 == 1) = decide (¬ m % 2 = 0) := by
            rw [Int.tmod_eq_emod_of_nonneg (by omega)]
            apply Bool.eq_iff_iff.2
            simp; omega
          have hpre3 : H1 <+: H3 := (show Same (fun j => j = rid) H1 H3 from (Same.of_prefix hpre2).trans hsame3).prefix (by omega)
          have fin : ∀ fr', upF H3 [(0, .int .i64 m), (3, lv 1 oid 0 x), (4, .int .i64 x), (5, lv 1 (H2.length + 1) 0 (y + 1)), (6, .int .i64 ((y : Int) + 1))] fr' → K2 fr' H3 := by
            intro fr' hf
            refine hK2 (y + 1, H2.length + 1) fr' H3 (by simp only; omega) (by simpa using hf) ⟨by simp only; omega, hpre3, ?_, ?_⟩
            · rw [sqRow_succ, ← ints_append]; exact hol3
            · have := hpre2.length_le; simp only; omega
          by_cases h1 : t % 2 = 0
          · have hv : IntKind.i64.wrap ((t : Int) / 2) = sqCell m x y := by
              rw [i64w (by omega) (by omega)]
              simp only [sqCell, ← ht, h1, if_true]; omega
            simp (maxSteps := 1000000) [go_sem, hly, srcCells, hm0, hw1, hw2, hw3, h1, hv, hsrc, hap, Value.oneCell']
            refine andK_intro (by omega) (fin _ ?_)
            simp [upF, Fr.get, Up.refl]
          · by_cases h2' : m % 2 = 0
            · have hv : IntKind.i64.wrap ((IntKind.i64.wrap (IntKind.i64.wrap ((t : Int) + (m : Int)) - 1)).tdiv 2) = sqCell m x y := by
                rw [i64w (n := (t : Int) + (m : Int)) (by omega) (by omega), i64w (n := (t : Int) + (m : Int) - 1) (by omega) (by omega), Int.tdiv_eq_ediv_of_nonneg (by omega), i64w (by omega) (by omega)]
                simp only [sqCell, ← ht, h1, h2', if_true, if_false]; omega
              simp (maxSteps := 1000000) [go_sem, hly, srcCells, hm0, hw1, hw2, hw3, hw4, h1, h2', hv, hsrc, hap, Value.oneCell']
              refine andK_intro (by omega) (fin _ ?_)
              simp [upF, Fr.get, Up.refl]
            · have hv : IntKind.i64.wrap ((IntKind.i64.wrap ((t : Int) + (m : Int))).tdiv 2) = sqCell m x y := by
                rw [i64w (n := (t : Int) + (m : Int)) (by omega) (by omega), Int.tdiv_eq_ediv_of_nonneg (by omega), i64w (by omega) (by omega)]
                simp only [sqCell, ← ht, h1, h2', if_false]; omega
              have h3 : m % 2 = 1 := by omega
              simp (maxSteps := 1000000) [go_sem, hly, srcCells, hm0, hw1, hw2, hw3, hw4, h1, h3, hv, hsrc, hap, Value.oneCell']
              refine andK_intro (by omega) (fin _ ?_)
              simp [upF, Fr.get, Up.refl]
        · have : y = m := by omega
          subst this
          have hol2' : OL 1 H2 rid (ints (sqRow y x y)) (sqRow y x y).length := by rw [sqRow_length]; exact hol2
          obtain ⟨hsrc, H4, hap, hb4⟩ := hb.push hpre2 hol2' hrid
          rw [sqRow_length] at hsrc hap
          rw [hlen] at hap
          have hw2 : IntKind.i64.wrap ((x : Int) + 1) = (x : Int) + 1 := i64w (by omega) (by omega)
          simp (maxSteps := 1000000) [go_sem, srcCells, hsrc, hap, Value.oneCell', hw2]
          exact andK_intro (by omega) (hK (x + 1, H2.length + 1, rows ++ [(rid, sqRow y x y)]) _ _ (by simp only; omega) (by simp [upF, Fr.get, Up.refl]) ⟨by simp only; omega, by simp [hlen], hb4, by simp [hcont, sqRows_succ]⟩)
    · have : x = m := by omega
      subst this
      simp (maxSteps := 1000000) [go_sem]
      refine ⟨_, Up.refl _ _, hgood H1 _ rows hb.pre (hlen ▸ hb.own (by omega) ?_) (fun r hr => (hb.ids r hr).1) (by simpa using hcont)⟩
      intro r hr
      have h0 := hcont ▸ List.mem_map_of_mem (f := fun r : Nat × List Int => r.2) hr
      simp only [sqRows, List.mem_map, List.mem_range] at h0
      obtain ⟨q, _, hq⟩ := h0
      rw [← hq, sqRow_length]; omega

theorem specSquareOf_ok {H : Heap} {n : Int} (Post : Value → Heap → Prop) (hbad : ¬ (2 ≤ n ∧ n ≤ 5) → Post (.tuple #[lv 1 0 0 0, .int .i64 2]) H)
    (hgood : ∀ (H' : Heap) (v : Value) (rows : List (Nat × List Int)), 2 ≤ n → n ≤ 5 → H <+: H' → OwnRows H' v rows → (∀ r ∈ rows, H.length ≤ r.1) → rows.map (·.2) = sqRows n.toNat n.toNat → Post (.tuple #[v, .int .i64 0]) H') :
    ACalls Try.prog 16 [.int .i64 n] H Post := by
  refine ACalls.res ?_
  refine acalls_vc (rs := [.tmp 2, .tmp 3]) Try.func16 rfl rfl Try.ntmps16 rfl rfl ?_
  simp (maxSteps := 1000000) [go_sem]
  refine l01In_ok _ ?_
  simp (maxSteps := 1000000) [go_sem]
  refine condK_intro (fun h => ?_) (fun h => ?_)
  · refine ⟨_, Up.tuple (ys := #[lv 1 0 0 0, .int .i64 2]) ⟨Up.nil _ _ _ _, Up.refl _ _, trivial⟩, hbad (by simp at h; omega)⟩
  · have h2 : 2 ≤ n ∧ n ≤ 5 := by simpa using h
    obtain ⟨m, rfl⟩ : ∃ m : Nat, n = m := ⟨n.toNat, by omega⟩
    refine l02Made_ok (by omega) (by omega) _ ?_
    intro H' v rows hp ho hf hc
    simp (maxSteps := 1000000) [go_sem]
    exact ⟨_, Up.refl _ _, hgood H' v rows h2.1 h2.2 hp ho hf (by simpa using hc)⟩

end Go.Proofs.Ytfnegaedkomcgaa
end

section
/- Systems in plain terms: what is a good block, what comes before, what fits. No program is in sight here. -/
set_option linter.all false
namespace Go.Ab

def good (v : Int) (b : Bk) : Bool := decide (0 ≤ b.a) && decide (b.a < b.b) && decide (b.b < b.c) && decide (b.c < v)
def before (x y : Bk) : Bool := if x.a ≠ y.a then decide (x.a < y.a) else if x.b ≠ y.b then decide (x.b < y.b) else decide (x.c < y.c)
def eq01 (x y : Int) : Nat := if x = y then 1 else 0
def common (x y : Bk) : Nat := eq01 x.a y.a + eq01 x.a y.b + eq01 x.a y.c + (eq01 x.b y.a + eq01 x.b y.b + eq01 x.b y.c) + (eq01 x.c y.a + eq01 x.c y.b + eq01 x.c y.c)
/-- The first n blocks fit, each with those ahead of it. -/
def Fits (bs : List Bk) : Prop := ∀ (i k : Nat) (x y : Bk), k < i → bs[i]? = some x → bs[k]? = some y → common x y ≤ 1
/-- Each block is good and comes behind the one ahead of it. -/
def Sorted (v : Int) (bs : List Bk) : Prop := ∀ (i : Nat) (x : Bk), bs[i]? = some x → good v x = true ∧ ∀ y, 0 < i → bs[i - 1]? = some y → before y x = true
def IsSys (p : Int) (bs : List Bk) : Prop := (3 ≤ p ∧ p ≤ 15) ∧ bs.length ≤ 35 ∧ Sorted p bs ∧ Fits bs

/-- A list is strictly ascending, from 0 to below n. -/
def Rises (n : Int) (xs : List Int) : Prop := ∀ (a : Nat) (x : Int), xs[a]? = some x → (0 ≤ x ∧ x < n) ∧ ∀ y, 0 < a → xs[a - 1]? = some y → y < x

theorem rises_block (v : Int) (b : Bk) : Rises v [b.a, b.b, b.c] ↔ good v b = true := by
  simp only [good, Bool.and_eq_true, decide_eq_true_eq]
  constructor
  · intro h
    have h0 := h 0 b.a rfl
    have h1 := h 1 b.b rfl
    have h2 := h 2 b.c rfl
    have := h1.2 b.a (by omega) rfl
    have := h2.2 b.b (by omega) rfl
    omega
  · intro h a x hx
    match a, hx with
    | 0, hx => simp at hx; subst hx; exact ⟨by omega, by omega⟩
    | 1, hx => simp at hx; subst hx; exact ⟨by omega, fun y _ hy => by simp at hy; omega⟩
    | 2, hx => simp at hx; subst hx; exact ⟨by omega, fun y _ hy => by simp at hy; omega⟩
    | a + 3, hx => simp at hx

/-- How two lists compare. -/
def lexC : List Int → List Int → Int
  | [], [] => 0
  | [], _ :: _ => -1
  | _ :: _, [] => 1
  | x :: xs, y :: ys => if x < y then -1 else if y < x then 1 else lexC xs ys

theorem lexC_block (x y : Bk) : (0 ≤ lexC [x.a, x.b, x.c] [y.a, y.b, y.c]) ↔ before x y = false := by
  simp only [lexC, before]
  repeat' split
  all_goals simp_all
  all_goals omega

end Go.Ab
end

section
/- What the specification's functions on systems compute. -/
set_option linter.all false
set_option maxRecDepth 20000
namespace Go.Proofs.Ytfnegaedkomcgaa
open Go.Ab

theorem l01Before_ok {H : Heap} {b d : Bk} (Post : Value → Heap → Prop) (h : ∀ H', H <+: H' → Post (.bool (before b d)) H') :
    ACalls Try.prog 51 [b.val, d.val] H Post := by
  refine acalls_vc (rs := [.tmp 4]) Try.func51 rfl rfl Try.ntmps51 rfl rfl ?_
  obtain ⟨b1, b2, b3⟩ := b
  obtain ⟨d1, d2, d3⟩ := d
  simp (maxSteps := 1000000) [go_sem, Bk.val, Value.oneCell']
  have h := h _ (List.prefix_append H [⟨[.int .i64 b1, .int .i64 b2, .int .i64 b3], true, true⟩, ⟨[.int .i64 d1, .int .i64 d2, .int .i64 d3], true, true⟩])
  simp only [before] at h
  refine AWp.loopVc (fun s : Nat => [(2, .pointer (some ⟨H.length, 0, none⟩)), (3, .pointer (some ⟨H.length + 1, 0, none⟩)), (5, .int .i64 s)])
    (fun s H' => s ≤ 3 ∧ H' = H ++ [⟨[.int .i64 b1, .int .i64 b2, .int .i64 b3], true, true⟩, ⟨[.int .i64 d1, .int .i64 d2, .int .i64 d3], true, true⟩] ∧ [b1, b2, b3].take s = [d1, d2, d3].take s) (fun s => 3 - s) 0 ?_ ?_ ?_
  · simp [upF, Fr.get, Up.refl]
  · simp
  · rintro K s H' ⟨hs, rfl, ht⟩ hK
    have cn : List (Nat × Bool) := []
    have : s = 0 ∨ s = 1 ∨ s = 2 ∨ s = 3 := by omega
    rcases this with rfl | rfl | rfl | rfl
    · simp (maxSteps := 1000000) [go_sem]
      refine AWp.draw mixed [(0, false), (1, false), (2, false), (3, false), (4, false), (5, false), (6, false)] (by kernel_rfl) ?_
      simp (maxSteps := 1000000) [go_sem, i64w (n := 1) (by omega) (by omega)]
      refine condK_intro (fun hne => ?_) (fun heq => ?_)
      · refine AWp.draw mixed [(0, false), (1, false), (2, false), (3, false), (4, false), (5, false), (6, false), (7, false)] (by kernel_rfl) ?_
        simp (maxSteps := 1000000) [go_sem]
        simp at hne; simpa [hne] using h
      · exact hK 1 _ _ (by omega) (by simp [upF, Fr.get, Up.refl]) ⟨by omega, rfl, by simpa using heq⟩
    · simp (maxSteps := 1000000) [go_sem]
      refine AWp.draw mixed [(0, false), (1, false), (2, false), (3, false), (4, false), (5, false), (6, false)] (by kernel_rfl) ?_
      simp (maxSteps := 1000000) [go_sem, i64w (n := 2) (by omega) (by omega)]
      refine condK_intro (fun hne => ?_) (fun heq => ?_)
      · refine AWp.draw mixed [(0, false), (1, false), (2, false), (3, false), (4, false), (5, false), (6, false), (7, false)] (by kernel_rfl) ?_
        simp (maxSteps := 1000000) [go_sem]
        simp at hne ht; simpa [hne, ht] using h
      · exact hK 2 _ _ (by omega) (by simp [upF, Fr.get, Up.refl]) ⟨by omega, rfl, by simp at ht heq; simp [ht, heq]⟩
    · simp (maxSteps := 1000000) [go_sem]
      refine AWp.draw mixed [(0, false), (1, false), (2, false), (3, false), (4, false), (5, false), (6, false)] (by kernel_rfl) ?_
      simp (maxSteps := 1000000) [go_sem, i64w (n := 3) (by omega) (by omega)]
      refine condK_intro (fun hne => ?_) (fun heq => ?_)
      · refine AWp.draw mixed [(0, false), (1, false), (2, false), (3, false), (4, false), (5, false), (6, false), (7, false)] (by kernel_rfl) ?_
        simp (maxSteps := 1000000) [go_sem]
        simp at hne ht; simpa [hne, ht] using h
      · exact hK 3 _ _ (by omega) (by simp [upF, Fr.get, Up.refl]) ⟨by omega, rfl, by simp at ht heq; simp [ht, heq]⟩
    · simp (maxSteps := 1000000) [go_sem]
      simp at ht
      simpa [ht] using h

end Go.Proofs.Ytfnegaedkomcgaa
end

section
/- What the program's functions on systems compute. -/
set_option linter.all false
set_option maxRecDepth 20000
namespace Go.Proofs.Ytfnegaedkomcgaa
open Go.Ab

theorem rises_ok {H : Heap} {u : Value} {xs : List Int} {n : Int} (hu : IntsAt H u xs) (hn : -9223372036854775807 ≤ n) (hn' : n ≤ 9223372036854775807) (Post : Value → Heap → Prop) (h : ∀ b : Bool, (b = true ↔ Rises n xs) → Post (.bool b) H) :
    ACalls Try.prog 52 [u, .int .i64 n] H Post := by
  obtain ⟨i, o, rfl, h1, h2⟩ := hu
  refine acalls_vc (rs := [.tmp 4]) Try.func52 rfl rfl Try.ntmps52 rfl rfl ?_
  simp (maxSteps := 1000000) [go_sem]
  refine AWp.loopVc (fun s : Nat => [(0, lv 1 i o xs.length), (1, .int .i64 n), (7, lv 1 i o xs.length), (8, .int .i64 xs.length), (9, .int .i64 s)])
    (fun s H' => s ≤ xs.length ∧ H' = H ∧ ∀ (a : Nat) (x : Int), a < s → xs[a]? = some x → (0 ≤ x ∧ x < n) ∧ ∀ y, 0 < a → xs[a - 1]? = some y → y < x) (fun s => xs.length - s) 0 ?_ ?_ ?_
  · simp [upF, Fr.get, Up.refl]
  · exact ⟨by omega, rfl, by intro a x ha; omega⟩
  · rintro K s H' ⟨hs, rfl, hf⟩ hK
    by_cases hlt : s < xs.length
    · have hx : xs[s]? = some xs[s] := List.getElem?_eq_getElem hlt
      have c1 := h1.cell (k := s) (v := .int .i64 xs[s]) (by simp [ints_get, hlt])
      have hw : IntKind.i64.wrap ((s : Int) + 1) = (s : Int) + 1 := i64w (by omega) (by omega)
      have hwn : IntKind.i64.wrap (n - 1) = n - 1 := i64w (by omega) (by omega)
      simp (maxSteps := 1000000) [go_sem, hlt, c1, hwn]
      refine within_ok _ ?_
      by_cases hin : 0 ≤ xs[s] ∧ xs[s] ≤ n - 1
      · by_cases h0 : s = 0
        · subst h0
          simp (maxSteps := 1000000) [go_sem, hin.1, hin.2, i64w (n := 1)]
          refine hK 1 _ _ (by omega) (by simp [upF, Fr.get, Up.refl]) ⟨by omega, rfl, fun a x ha hx' => ?_⟩
          obtain rfl : a = 0 := by omega
          rw [hx] at hx'; cases hx'
          exact ⟨by omega, by omega⟩
        · obtain ⟨r, rfl⟩ : ∃ r, s = r + 1 := ⟨s - 1, by omega⟩
          have hxr : xs[r]? = some (xs[r]'(by omega)) := List.getElem?_eq_getElem _
          have c2 := h1.cell (k := r) (v := .int .i64 (xs[r]'(by omega))) (by simp [ints_get, hxr])
          have hr : r < xs.length := by omega
          have hw3 : IntKind.i64.wrap (r : Int) = (r : Int) := i64w (by omega) (by omega)
          have hw4 : IntKind.i64.wrap ((r : Int) + 1 + 1) = (r : Int) + 1 + 1 := i64w (by omega) (by omega)
          simp (maxSteps := 1000000) [go_sem, hin.1, hin.2, hw3, hr, c2, hw4]
          refine condK_intro (fun hge => ?_) (fun hlt' => ?_)
          · refine h false ⟨by simp, fun hR => ?_⟩
            have := (hR (r + 1) _ hx).2 _ (by omega) hxr
            simp at hge; omega
          · refine hK (r + 1 + 1) _ _ (by omega) (by simp [upF, Fr.get, Up.refl]) ⟨by omega, rfl, fun a x ha hx' => ?_⟩
            by_cases har : a = r + 1
            · subst har
              rw [hx] at hx'; cases hx'
              refine ⟨by omega, fun y _ hy => ?_⟩
              simp only [Nat.add_sub_cancel] at hy
              rw [hxr] at hy; cases hy
              simpa using hlt'
            · exact hf a x (by omega) hx'
      · have hnin : (decide (0 ≤ xs[s]) && decide (xs[s] ≤ n - 1)) = false := by simp; omega
        rw [hnin]
        simp (maxSteps := 1000000) [go_sem]
        refine h false ⟨by simp, fun hR => ?_⟩
        have := (hR s _ hx).1
        omega
    · have : s = xs.length := by omega
      subst this
      simp (maxSteps := 1000000) [go_sem]
      exact h true ⟨fun _ a x hx => hf a x (List.getElem?_eq_some_iff.1 hx).1 hx, fun _ => rfl⟩

theorem isBlock_ok {H : Heap} {b : Bk} {v : Int} (hn : -9223372036854775807 ≤ v) (hn' : v ≤ 9223372036854775807) (Post : Value → Heap → Prop) (h : ∀ H', H <+: H' → Post (.bool (good v b)) H') :
    ACalls Try.prog 55 [b.val, .int .i64 v] H Post := by
  refine acalls_vc (rs := [.tmp 4]) Try.func55 rfl rfl Try.ntmps55 rfl rfl ?_
  simp (maxSteps := 1000000) [go_sem, Bk.val, Value.oneCell']
  have hat : At (H ++ [⟨[.int .i64 b.a, .int .i64 b.b, .int .i64 b.c], true, true⟩]) H.length 0 (ints [b.a, b.b, b.c]) := Holds.at ⟨true, by simp [ints]⟩
  refine ACalls.up (args' := [lv 1 H.length 0 3, .int .i64 v]) ⟨Up.ex (by omega) (.inr (by simp [go_sem])), Up.refl _ _, trivial⟩ ?_
  refine rises_ok (xs := [b.a, b.b, b.c]) ⟨H.length, 0, rfl, hat, by simp⟩ hn hn' _ ?_
  intro r hr
  simp (maxSteps := 1000000) [go_sem]
  have : r = good v b := by
    rw [rises_block] at hr
    cases r <;> cases hg : good v b <;> simp_all
  rw [this]
  exact h _ (List.prefix_append _ _)

theorem isNaN_ok {H : Heap} {x : Int} (Post : Value → Heap → Prop) (h : Post (.bool false) H) :
    ACalls Try.prog 87 [.int .i64 x] H Post := by
  refine acalls_vc (rs := [.tmp 2]) Try.func87 rfl rfl Try.ntmps87 rfl rfl ?_
  simp (maxSteps := 1000000) [go_sem]
  exact h

theorem cmpCompare_ok {H : Heap} {x y : Int} (Post : Value → Heap → Prop) (h : Post (.int .i64 (if x < y then -1 else if y < x then 1 else 0)) H) :
    ACalls Try.prog 81 [.int .i64 x, .int .i64 y] H Post := by
  refine acalls_vc (rs := [.tmp 4]) Try.func81 rfl rfl Try.ntmps81 rfl rfl ?_
  simp (maxSteps := 1000000) [go_sem]
  refine isNaN_ok _ ?_
  simp (maxSteps := 1000000) [go_sem]
  refine isNaN_ok _ ?_
  simp (maxSteps := 1000000) [go_sem]
  refine condK_intro (fun h1 => ?_) (fun h1 => ?_)
  · rw [if_pos (by simpa using h1)] at h; exact h
  · rw [if_neg (by simpa using h1)] at h
    refine condK_intro (fun h2 => ?_) (fun h2 => ?_)
    · rw [if_pos (by simpa using h2)] at h; exact h
    · rw [if_neg (by simpa using h2)] at h; exact h

theorem slicesCompare_ok {H : Heap} {u v : Value} {xs ys : List Int} (hu : IntsAt H u xs) (hv : IntsAt H v ys) (Post : Value → Heap → Prop) (h : Post (.int .i64 (lexC xs ys)) H) :
    ACalls Try.prog 64 [u, v] H Post := by
  obtain ⟨i, o, rfl, h1, h2⟩ := hu
  obtain ⟨j, q, rfl, h3, h4⟩ := hv
  refine acalls_vc (rs := [.tmp 4]) Try.func64 rfl rfl Try.ntmps64 rfl rfl ?_
  simp (maxSteps := 1000000) [go_sem]
  refine AWp.loopVc (fun s : Nat => [(0, lv 1 i o xs.length), (1, lv 1 j q ys.length), (9, lv 1 i o xs.length), (10, .int .i64 xs.length), (11, .int .i64 s)])
    (fun s H' => s ≤ xs.length ∧ s ≤ ys.length ∧ H' = H ∧ lexC xs ys = lexC (xs.drop s) (ys.drop s)) (fun s => xs.length - s) 0 ?_ ?_ ?_
  · simp [upF, Fr.get, Up.refl]
  · exact ⟨by omega, by omega, rfl, by simp⟩
  · rintro K s H' ⟨hs, hs', rfl, hf⟩ hK
    by_cases hlt : s < xs.length
    · have hdx : xs.drop s = xs[s] :: xs.drop (s + 1) := List.drop_eq_getElem_cons hlt
      have c1 := h1.cell (k := s) (v := .int .i64 xs[s]) (by simp [ints_get, hlt])
      have hw : IntKind.i64.wrap ((s : Int) + 1) = (s : Int) + 1 := i64w (by omega) (by omega)
      by_cases hly : s < ys.length
      · have hdy : ys.drop s = ys[s] :: ys.drop (s + 1) := List.drop_eq_getElem_cons hly
        have c2 := h3.cell (k := s) (v := .int .i64 ys[s]) (by simp [ints_get, hly])
        have hly' : ¬ ys.length ≤ s := by omega
        simp (maxSteps := 1000000) [go_sem, hlt, hly, hly', c1, c2]
        refine cmpCompare_ok _ ?_
        rw [hdx, hdy] at hf
        simp only [lexC] at hf
        by_cases hxy : xs[s] < ys[s]
        · rw [if_pos hxy] at hf ⊢
          simp (maxSteps := 1000000) [go_sem]
          rw [hf] at h; exact h
        · rw [if_neg hxy] at hf ⊢
          by_cases hyx : ys[s] < xs[s]
          · rw [if_pos hyx] at hf ⊢
            simp (maxSteps := 1000000) [go_sem]
            rw [hf] at h; exact h
          · rw [if_neg hyx] at hf ⊢
            simp (maxSteps := 1000000) [go_sem, hw]
            exact hK (s + 1) _ _ (by omega) (by simp [upF, Fr.get, Up.refl]) ⟨by omega, by omega, rfl, hf⟩
      · have hly' : ys.length ≤ s := by omega
        simp (maxSteps := 1000000) [go_sem, hlt, hly', c1]
        rw [hdx, List.drop_eq_nil_of_le hly'] at hf
        simp only [lexC] at hf
        rw [hf] at h; exact h
    · have : s = xs.length := by omega
      subst this
      simp (maxSteps := 1000000) [go_sem]
      rw [List.drop_eq_nil_of_le (Nat.le_refl _)] at hf
      refine condK_intro (fun hl => ?_) (fun hl => ?_)
      · have hl : xs.length < ys.length := by simpa using hl
        rw [List.drop_eq_getElem_cons hl] at hf
        simp only [lexC] at hf
        rw [hf] at h; exact h
      · have hl : ys.length ≤ xs.length := by simpa using hl
        rw [List.drop_eq_nil_of_le hl] at hf
        simp only [lexC] at hf
        rw [hf] at h; exact h

theorem compare_ok {H : Heap} {b d : Bk} (Post : Value → Heap → Prop) (h : ∀ H', H <+: H' → Post (.int .i64 (lexC [b.a, b.b, b.c] [d.a, d.b, d.c])) H') :
    ACalls Try.prog 56 [b.val, d.val] H Post := by
  refine acalls_vc (rs := [.tmp 4]) Try.func56 rfl rfl Try.ntmps56 rfl rfl ?_
  simp (maxSteps := 1000000) [go_sem, Bk.val, Value.oneCell']
  refine AWp.draw mixed [(0, false), (1, false), (2, false), (3, false)] (by kernel_rfl) ?_
  simp (maxSteps := 1000000) [go_sem]
  have ha : Holds (H ++ [⟨[.int .i64 b.a, .int .i64 b.b, .int .i64 b.c], true, true⟩, ⟨[.int .i64 d.a, .int .i64 d.b, .int .i64 d.c], true, true⟩]) H.length (ints [b.a, b.b, b.c]) := ⟨true, by simp [ints]⟩
  have hd : Holds (H ++ [⟨[.int .i64 b.a, .int .i64 b.b, .int .i64 b.c], true, true⟩, ⟨[.int .i64 d.a, .int .i64 d.b, .int .i64 d.c], true, true⟩]) (H.length + 1) (ints [d.a, d.b, d.c]) := ⟨true, by simp [ints]⟩
  refine ACalls.up (args' := [lv 1 H.length 0 3, lv 1 (H.length + 1) 0 3]) ⟨Up.ex (by omega) (.inr (by simp [go_sem])), Up.ex (by omega) (.inr (by simp [go_sem])), trivial⟩ ?_
  refine slicesCompare_ok (xs := [b.a, b.b, b.c]) (ys := [d.a, d.b, d.c]) ⟨H.length, 0, rfl, ha.at, by simp⟩ ⟨H.length + 1, 0, rfl, hd.at, by simp⟩ _ ?_
  simp (maxSteps := 1000000) [go_sem]
  exact h _ (List.prefix_append _ _)

end Go.Proofs.Ytfnegaedkomcgaa
end
