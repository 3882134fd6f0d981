/- Part 3 of what the proof of the law FnBlocks rests on: contracts of functions of the program, for every argument that each names; no statement of the seat is proved here. -/
import Derived.Test.YtfnegaedkomcgaaGreatProg
import Derived.KernelRfl
import Derived.Test.YtfnegaedkomcgaaGreatRows
import Derived.Test.YtfnegaedkomcgaaGreatFnBlocksPart2

set_option linter.all false
set_option maxRecDepth 20000
set_option maxHeartbeats 8000000
section
namespace Go.Proofs.YtfnegaedkomcgaaGreat
open Go.Ab

theorem ti2 : ti Tryz.prog 2 = some ⟨.int .i64, 1, 8, (.int .i64 0)⟩ := by kernel_rfl
theorem zok2 : zeroOK Tryz.prog 2 = true := by kernel_rfl
theorem ti3 : ti Tryz.prog 3 = some ⟨.int .i64, 1, 8, (.int .i64 0)⟩ := by kernel_rfl
theorem zok3 : zeroOK Tryz.prog 3 = true := by kernel_rfl
theorem ti4 : ti Tryz.prog 4 = some ⟨.bool, 1, 1, (.bool false)⟩ := by kernel_rfl
theorem zok4 : zeroOK Tryz.prog 4 = true := by kernel_rfl
theorem ti5 : ti Tryz.prog 5 = some ⟨.int .u8, 1, 1, (.int .u8 0)⟩ := by kernel_rfl
theorem zok5 : zeroOK Tryz.prog 5 = true := by kernel_rfl
theorem ti6 : ti Tryz.prog 6 = some ⟨.int .u8, 1, 1, (.int .u8 0)⟩ := by kernel_rfl
theorem zok6 : zeroOK Tryz.prog 6 = true := by kernel_rfl
theorem ti7 : ti Tryz.prog 7 = some ⟨.struct (Tryz.prog.fieldsOf 7), 4, 24, (.agg #[(.int .i64 0), (.int .i64 0), (.bool false), (.int .u8 0)])⟩ := by kernel_rfl
theorem zok7 : zeroOK Tryz.prog 7 = true := by kernel_rfl
theorem ti8 : ti Tryz.prog 8 = some ⟨.struct (Tryz.prog.fieldsOf 8), 4, 24, (.agg #[(.int .i64 0), (.int .i64 0), (.bool false), (.int .u8 0)])⟩ := by kernel_rfl
theorem zok8 : zeroOK Tryz.prog 8 = true := by kernel_rfl
theorem ti9 : ti Tryz.prog 9 = some ⟨.string, 1, 16, (.string ⟨#[]⟩)⟩ := by kernel_rfl
theorem zok9 : zeroOK Tryz.prog 9 = true := by kernel_rfl
theorem ti10 : ti Tryz.prog 10 = some ⟨.string, 1, 16, (.string ⟨#[]⟩)⟩ := by kernel_rfl
theorem zok10 : zeroOK Tryz.prog 10 = true := by kernel_rfl
theorem ti11 : ti Tryz.prog 11 = some ⟨.string, 1, 16, (.string ⟨#[]⟩)⟩ := by kernel_rfl
theorem zok11 : zeroOK Tryz.prog 11 = true := by kernel_rfl
theorem ti12 : ti Tryz.prog 12 = some ⟨.int .u64, 1, 8, (.int .u64 0)⟩ := by kernel_rfl
theorem zok12 : zeroOK Tryz.prog 12 = true := by kernel_rfl
theorem ti13 : ti Tryz.prog 13 = some ⟨.struct (Tryz.prog.fieldsOf 13), 2, 24, (.agg #[(.string ⟨#[]⟩), (.int .u64 0)])⟩ := by kernel_rfl
theorem zok13 : zeroOK Tryz.prog 13 = true := by kernel_rfl
theorem ti14 : ti Tryz.prog 14 = some ⟨.struct (Tryz.prog.fieldsOf 14), 2, 24, (.agg #[(.string ⟨#[]⟩), (.int .u64 0)])⟩ := by kernel_rfl
theorem zok14 : zeroOK Tryz.prog 14 = true := by kernel_rfl
theorem ti15 : ti Tryz.prog 15 = some ⟨.pointer 205, 1, 8, (.pointer none)⟩ := by kernel_rfl
theorem zok15 : zeroOK Tryz.prog 15 = true := by kernel_rfl
theorem ti16 : ti Tryz.prog 16 = some ⟨.pointer 208, 1, 8, (.pointer none)⟩ := by kernel_rfl
theorem zok16 : zeroOK Tryz.prog 16 = true := by kernel_rfl
theorem ti17 : ti Tryz.prog 17 = some ⟨.pointer 217, 1, 8, (.pointer none)⟩ := by kernel_rfl
theorem zok17 : zeroOK Tryz.prog 17 = true := by kernel_rfl
theorem ti18 : ti Tryz.prog 18 = some ⟨.struct (Tryz.prog.fieldsOf 18), 1, 8, (.agg #[(.pointer none)])⟩ := by kernel_rfl
theorem zok18 : zeroOK Tryz.prog 18 = true := by kernel_rfl
theorem ti19 : ti Tryz.prog 19 = some ⟨.struct (Tryz.prog.fieldsOf 19), 1, 8, (.agg #[(.pointer none)])⟩ := by kernel_rfl
theorem zok19 : zeroOK Tryz.prog 19 = true := by kernel_rfl
theorem ti21 : ti Tryz.prog 21 = some ⟨.int .i32, 1, 4, (.int .i32 0)⟩ := by kernel_rfl
theorem zok21 : zeroOK Tryz.prog 21 = true := by kernel_rfl
theorem ti22 : ti Tryz.prog 22 = some ⟨.slice 5, 1, 24, (.slice none 0 0)⟩ := by kernel_rfl
theorem zok22 : zeroOK Tryz.prog 22 = true := by kernel_rfl
theorem ti24 : ti Tryz.prog 24 = some ⟨.slice 39, 1, 24, (.slice none 0 0)⟩ := by kernel_rfl
theorem zok24 : zeroOK Tryz.prog 24 = true := by kernel_rfl
theorem ti25 : ti Tryz.prog 25 = some ⟨.struct (Tryz.prog.fieldsOf 25), 2, 32, (.agg #[(.int .i64 0), (.slice none 0 0)])⟩ := by kernel_rfl
theorem zok25 : zeroOK Tryz.prog 25 = true := by kernel_rfl
theorem ti26 : ti Tryz.prog 26 = some ⟨.struct (Tryz.prog.fieldsOf 26), 2, 32, (.agg #[(.int .i64 0), (.slice none 0 0)])⟩ := by kernel_rfl
theorem zok26 : zeroOK Tryz.prog 26 = true := by kernel_rfl
theorem ti36 : ti Tryz.prog 36 = some ⟨.slice 2, 1, 24, (.slice none 0 0)⟩ := by kernel_rfl
theorem zok36 : zeroOK Tryz.prog 36 = true := by kernel_rfl
theorem ti38 : ti Tryz.prog 38 = some ⟨.array 3 2, 3, 24, (.agg #[(.int .i64 0), (.int .i64 0), (.int .i64 0)])⟩ := by kernel_rfl
theorem zok38 : zeroOK Tryz.prog 38 = true := by kernel_rfl
theorem ti39 : ti Tryz.prog 39 = some ⟨.array 3 2, 3, 24, (.agg #[(.int .i64 0), (.int .i64 0), (.int .i64 0)])⟩ := by kernel_rfl
theorem zok39 : zeroOK Tryz.prog 39 = true := by kernel_rfl
theorem ti53 : ti Tryz.prog 53 = some ⟨.struct (Tryz.prog.fieldsOf 53), 3, 56, (.agg #[(.int .i64 0), (.slice none 0 0), (.slice none 0 0)])⟩ := by kernel_rfl
theorem zok53 : zeroOK Tryz.prog 53 = true := by kernel_rfl
theorem ti54 : ti Tryz.prog 54 = some ⟨.struct (Tryz.prog.fieldsOf 54), 3, 56, (.agg #[(.int .i64 0), (.slice none 0 0), (.slice none 0 0)])⟩ := by kernel_rfl
theorem zok54 : zeroOK Tryz.prog 54 = true := by kernel_rfl
theorem ti56 : ti Tryz.prog 56 = some ⟨.slice 54, 1, 24, (.slice none 0 0)⟩ := by kernel_rfl
theorem zok56 : zeroOK Tryz.prog 56 = true := by kernel_rfl
theorem ti62 : ti Tryz.prog 62 = some ⟨.pointer 106, 1, 8, (.pointer none)⟩ := by kernel_rfl
theorem zok62 : zeroOK Tryz.prog 62 = true := by kernel_rfl
theorem ti73 : ti Tryz.prog 73 = some ⟨.pointer 171, 1, 8, (.pointer none)⟩ := by kernel_rfl
theorem zok73 : zeroOK Tryz.prog 73 = true := by kernel_rfl
theorem ti104 : ti Tryz.prog 104 = some ⟨.int .u64, 1, 8, (.int .u64 0)⟩ := by kernel_rfl
theorem zok104 : zeroOK Tryz.prog 104 = true := by kernel_rfl
theorem ti105 : ti Tryz.prog 105 = some ⟨.struct (Tryz.prog.fieldsOf 105), 3, 40, (.agg #[(.slice none 0 0), (.int .i64 0), (.int .u64 0)])⟩ := by kernel_rfl
theorem zok105 : zeroOK Tryz.prog 105 = true := by kernel_rfl
theorem ti106 : ti Tryz.prog 106 = some ⟨.struct (Tryz.prog.fieldsOf 106), 3, 40, (.agg #[(.slice none 0 0), (.int .i64 0), (.int .u64 0)])⟩ := by kernel_rfl
theorem zok106 : zeroOK Tryz.prog 106 = true := by kernel_rfl
theorem ti107 : ti Tryz.prog 107 = some ⟨.int .u64, 1, 8, (.int .u64 0)⟩ := by kernel_rfl
theorem zok107 : zeroOK Tryz.prog 107 = true := by kernel_rfl
theorem ti108 : ti Tryz.prog 108 = some ⟨.slice 9, 1, 24, (.slice none 0 0)⟩ := by kernel_rfl
theorem zok108 : zeroOK Tryz.prog 108 = true := by kernel_rfl
theorem ti116 : ti Tryz.prog 116 = some ⟨.array 15 2, 15, 120, (.agg (Array.replicate 15 (.int .i64 0)))⟩ := by kernel_rfl
theorem zok116 : zeroOK Tryz.prog 116 = true := by kernel_rfl
theorem ti120 : ti Tryz.prog 120 = some ⟨.slice 24, 1, 24, (.slice none 0 0)⟩ := by kernel_rfl
theorem zok120 : zeroOK Tryz.prog 120 = true := by kernel_rfl
theorem ti126 : ti Tryz.prog 126 = some ⟨.slice 4, 1, 24, (.slice none 0 0)⟩ := by kernel_rfl
theorem zok126 : zeroOK Tryz.prog 126 = true := by kernel_rfl
theorem ti136 : ti Tryz.prog 136 = some ⟨.slice 137, 1, 24, (.slice none 0 0)⟩ := by kernel_rfl
theorem zok136 : zeroOK Tryz.prog 136 = true := by kernel_rfl
theorem ti137 : ti Tryz.prog 137 = some ⟨.array 2 2, 2, 16, (.agg #[(.int .i64 0), (.int .i64 0)])⟩ := by kernel_rfl
theorem zok137 : zeroOK Tryz.prog 137 = true := by kernel_rfl
theorem ti158 : ti Tryz.prog 158 = some ⟨.int .i64, 1, 8, (.int .i64 0)⟩ := by kernel_rfl
theorem zok158 : zeroOK Tryz.prog 158 = true := by kernel_rfl
theorem ti167 : ti Tryz.prog 167 = some ⟨.int .u32, 1, 4, (.int .u32 0)⟩ := by kernel_rfl
theorem zok167 : zeroOK Tryz.prog 167 = true := by kernel_rfl
theorem ti170 : ti Tryz.prog 170 = some ⟨.array 15 116, 225, 1800, (.agg (Array.replicate 225 (.int .i64 0)))⟩ := by kernel_rfl
theorem zok170 : zeroOK Tryz.prog 170 = true := by kernel_rfl
theorem ti171 : ti Tryz.prog 171 = some ⟨.array 15 116, 225, 1800, (.agg (Array.replicate 225 (.int .i64 0)))⟩ := by kernel_rfl
theorem zok171 : zeroOK Tryz.prog 171 = true := by kernel_rfl
theorem ti177 : ti Tryz.prog 177 = some ⟨.int .u64, 1, 8, (.int .u64 0)⟩ := by kernel_rfl
theorem zok177 : zeroOK Tryz.prog 177 = true := by kernel_rfl
theorem ti181 : ti Tryz.prog 181 = some ⟨.pointer 3, 1, 8, (.pointer none)⟩ := by kernel_rfl
theorem zok181 : zeroOK Tryz.prog 181 = true := by kernel_rfl
theorem ti194 : ti Tryz.prog 194 = some ⟨.pointer 177, 1, 8, (.pointer none)⟩ := by kernel_rfl
theorem zok194 : zeroOK Tryz.prog 194 = true := by kernel_rfl
theorem ti204 : ti Tryz.prog 204 = some ⟨.struct (Tryz.prog.fieldsOf 204), 4, 40, (.agg #[(.pointer none), (.pointer none), (.pointer none), (.string ⟨#[]⟩)])⟩ := by kernel_rfl
theorem zok204 : zeroOK Tryz.prog 204 = true := by kernel_rfl
theorem ti205 : ti Tryz.prog 205 = some ⟨.struct (Tryz.prog.fieldsOf 205), 4, 40, (.agg #[(.pointer none), (.pointer none), (.pointer none), (.string ⟨#[]⟩)])⟩ := by kernel_rfl
theorem zok205 : zeroOK Tryz.prog 205 = true := by kernel_rfl
theorem ti206 : ti Tryz.prog 206 = some ⟨.array 0 16, 0, 0, (.agg #[])⟩ := by kernel_rfl
theorem zok206 : zeroOK Tryz.prog 206 = true := by kernel_rfl
theorem ti207 : ti Tryz.prog 207 = some ⟨.struct (Tryz.prog.fieldsOf 207), 0, 0, (.agg #[])⟩ := by kernel_rfl
theorem zok207 : zeroOK Tryz.prog 207 = true := by kernel_rfl
theorem ti208 : ti Tryz.prog 208 = some ⟨.struct (Tryz.prog.fieldsOf 208), 0, 0, (.agg #[])⟩ := by kernel_rfl
theorem zok208 : zeroOK Tryz.prog 208 = true := by kernel_rfl
theorem ti210 : ti Tryz.prog 210 = some ⟨.int .u8, 1, 1, (.int .u8 0)⟩ := by kernel_rfl
theorem zok210 : zeroOK Tryz.prog 210 = true := by kernel_rfl
theorem ti211 : ti Tryz.prog 211 = some ⟨.int .u8, 1, 1, (.int .u8 0)⟩ := by kernel_rfl
theorem zok211 : zeroOK Tryz.prog 211 = true := by kernel_rfl
theorem ti213 : ti Tryz.prog 213 = some ⟨.pointer 5, 1, 8, (.pointer none)⟩ := by kernel_rfl
theorem zok213 : zeroOK Tryz.prog 213 = true := by kernel_rfl
theorem ti214 : ti Tryz.prog 214 = some ⟨.int .i32, 1, 4, (.int .i32 0)⟩ := by kernel_rfl
theorem zok214 : zeroOK Tryz.prog 214 = true := by kernel_rfl
theorem ti215 : ti Tryz.prog 215 = some ⟨.int .i32, 1, 4, (.int .i32 0)⟩ := by kernel_rfl
theorem zok215 : zeroOK Tryz.prog 215 = true := by kernel_rfl
theorem ti216 : ti Tryz.prog 216 = some ⟨.struct (Tryz.prog.fieldsOf 216), 11, 48, (.agg #[(.int .u64 0), (.int .u64 0), (.int .u32 0), (.int .u8 0), (.int .u8 0), (.int .u8 0), (.int .u8 0), .nilFunc, (.pointer none), (.int .i32 0), (.int .i32 0)])⟩ := by kernel_rfl
theorem zok216 : zeroOK Tryz.prog 216 = true := by kernel_rfl
theorem ti217 : ti Tryz.prog 217 = some ⟨.struct (Tryz.prog.fieldsOf 217), 11, 48, (.agg #[(.int .u64 0), (.int .u64 0), (.int .u32 0), (.int .u8 0), (.int .u8 0), (.int .u8 0), (.int .u8 0), .nilFunc, (.pointer none), (.int .i32 0), (.int .i32 0)])⟩ := by kernel_rfl
theorem zok217 : zeroOK Tryz.prog 217 = true := by kernel_rfl
theorem bt7_  : Tryz.prog.built 7 [] = some #[(.int .i64 0), (.int .i64 0), (.bool false), (.int .u8 0)] := by kernel_rfl
theorem bt7_0 (x0 : Int) : Tryz.prog.built 7 [(0, (.int .i64 x0))] = some #[(.int .i64 x0), (.int .i64 0), (.bool false), (.int .u8 0)] := by kernel_rfl
theorem bt7_1 (x1 : Int) : Tryz.prog.built 7 [(1, (.int .i64 x1))] = some #[(.int .i64 0), (.int .i64 x1), (.bool false), (.int .u8 0)] := by kernel_rfl
theorem bt7_2 (x2 : Bool) : Tryz.prog.built 7 [(2, (.bool x2))] = some #[(.int .i64 0), (.int .i64 0), (.bool x2), (.int .u8 0)] := by kernel_rfl
theorem bt7_3 (x3 : Int) : Tryz.prog.built 7 [(3, (.int .u8 x3))] = some #[(.int .i64 0), (.int .i64 0), (.bool false), (.int .u8 x3)] := by kernel_rfl
theorem bt7_01 (x0 : Int) (x1 : Int) : Tryz.prog.built 7 [(0, (.int .i64 x0)), (1, (.int .i64 x1))] = some #[(.int .i64 x0), (.int .i64 x1), (.bool false), (.int .u8 0)] := by kernel_rfl
theorem bt7_02 (x0 : Int) (x2 : Bool) : Tryz.prog.built 7 [(0, (.int .i64 x0)), (2, (.bool x2))] = some #[(.int .i64 x0), (.int .i64 0), (.bool x2), (.int .u8 0)] := by kernel_rfl
theorem bt7_03 (x0 : Int) (x3 : Int) : Tryz.prog.built 7 [(0, (.int .i64 x0)), (3, (.int .u8 x3))] = some #[(.int .i64 x0), (.int .i64 0), (.bool false), (.int .u8 x3)] := by kernel_rfl
theorem bt7_12 (x1 : Int) (x2 : Bool) : Tryz.prog.built 7 [(1, (.int .i64 x1)), (2, (.bool x2))] = some #[(.int .i64 0), (.int .i64 x1), (.bool x2), (.int .u8 0)] := by kernel_rfl
theorem bt7_13 (x1 : Int) (x3 : Int) : Tryz.prog.built 7 [(1, (.int .i64 x1)), (3, (.int .u8 x3))] = some #[(.int .i64 0), (.int .i64 x1), (.bool false), (.int .u8 x3)] := by kernel_rfl
theorem bt7_23 (x2 : Bool) (x3 : Int) : Tryz.prog.built 7 [(2, (.bool x2)), (3, (.int .u8 x3))] = some #[(.int .i64 0), (.int .i64 0), (.bool x2), (.int .u8 x3)] := by kernel_rfl
theorem bt7_012 (x0 : Int) (x1 : Int) (x2 : Bool) : Tryz.prog.built 7 [(0, (.int .i64 x0)), (1, (.int .i64 x1)), (2, (.bool x2))] = some #[(.int .i64 x0), (.int .i64 x1), (.bool x2), (.int .u8 0)] := by kernel_rfl
theorem bt7_013 (x0 : Int) (x1 : Int) (x3 : Int) : Tryz.prog.built 7 [(0, (.int .i64 x0)), (1, (.int .i64 x1)), (3, (.int .u8 x3))] = some #[(.int .i64 x0), (.int .i64 x1), (.bool false), (.int .u8 x3)] := by kernel_rfl
theorem bt7_023 (x0 : Int) (x2 : Bool) (x3 : Int) : Tryz.prog.built 7 [(0, (.int .i64 x0)), (2, (.bool x2)), (3, (.int .u8 x3))] = some #[(.int .i64 x0), (.int .i64 0), (.bool x2), (.int .u8 x3)] := by kernel_rfl
theorem bt7_123 (x1 : Int) (x2 : Bool) (x3 : Int) : Tryz.prog.built 7 [(1, (.int .i64 x1)), (2, (.bool x2)), (3, (.int .u8 x3))] = some #[(.int .i64 0), (.int .i64 x1), (.bool x2), (.int .u8 x3)] := by kernel_rfl
theorem bt7_0123 (x0 : Int) (x1 : Int) (x2 : Bool) (x3 : Int) : Tryz.prog.built 7 [(0, (.int .i64 x0)), (1, (.int .i64 x1)), (2, (.bool x2)), (3, (.int .u8 x3))] = some #[(.int .i64 x0), (.int .i64 x1), (.bool x2), (.int .u8 x3)] := by kernel_rfl
theorem bt8_  : Tryz.prog.built 8 [] = some #[(.int .i64 0), (.int .i64 0), (.bool false), (.int .u8 0)] := by kernel_rfl
theorem bt8_0 (x0 : Int) : Tryz.prog.built 8 [(0, (.int .i64 x0))] = some #[(.int .i64 x0), (.int .i64 0), (.bool false), (.int .u8 0)] := by kernel_rfl
theorem bt8_1 (x1 : Int) : Tryz.prog.built 8 [(1, (.int .i64 x1))] = some #[(.int .i64 0), (.int .i64 x1), (.bool false), (.int .u8 0)] := by kernel_rfl
theorem bt8_2 (x2 : Bool) : Tryz.prog.built 8 [(2, (.bool x2))] = some #[(.int .i64 0), (.int .i64 0), (.bool x2), (.int .u8 0)] := by kernel_rfl
theorem bt8_3 (x3 : Int) : Tryz.prog.built 8 [(3, (.int .u8 x3))] = some #[(.int .i64 0), (.int .i64 0), (.bool false), (.int .u8 x3)] := by kernel_rfl
theorem bt8_01 (x0 : Int) (x1 : Int) : Tryz.prog.built 8 [(0, (.int .i64 x0)), (1, (.int .i64 x1))] = some #[(.int .i64 x0), (.int .i64 x1), (.bool false), (.int .u8 0)] := by kernel_rfl
theorem bt8_02 (x0 : Int) (x2 : Bool) : Tryz.prog.built 8 [(0, (.int .i64 x0)), (2, (.bool x2))] = some #[(.int .i64 x0), (.int .i64 0), (.bool x2), (.int .u8 0)] := by kernel_rfl
theorem bt8_03 (x0 : Int) (x3 : Int) : Tryz.prog.built 8 [(0, (.int .i64 x0)), (3, (.int .u8 x3))] = some #[(.int .i64 x0), (.int .i64 0), (.bool false), (.int .u8 x3)] := by kernel_rfl
theorem bt8_12 (x1 : Int) (x2 : Bool) : Tryz.prog.built 8 [(1, (.int .i64 x1)), (2, (.bool x2))] = some #[(.int .i64 0), (.int .i64 x1), (.bool x2), (.int .u8 0)] := by kernel_rfl
theorem bt8_13 (x1 : Int) (x3 : Int) : Tryz.prog.built 8 [(1, (.int .i64 x1)), (3, (.int .u8 x3))] = some #[(.int .i64 0), (.int .i64 x1), (.bool false), (.int .u8 x3)] := by kernel_rfl
theorem bt8_23 (x2 : Bool) (x3 : Int) : Tryz.prog.built 8 [(2, (.bool x2)), (3, (.int .u8 x3))] = some #[(.int .i64 0), (.int .i64 0), (.bool x2), (.int .u8 x3)] := by kernel_rfl
theorem bt8_012 (x0 : Int) (x1 : Int) (x2 : Bool) : Tryz.prog.built 8 [(0, (.int .i64 x0)), (1, (.int .i64 x1)), (2, (.bool x2))] = some #[(.int .i64 x0), (.int .i64 x1), (.bool x2), (.int .u8 0)] := by kernel_rfl
theorem bt8_013 (x0 : Int) (x1 : Int) (x3 : Int) : Tryz.prog.built 8 [(0, (.int .i64 x0)), (1, (.int .i64 x1)), (3, (.int .u8 x3))] = some #[(.int .i64 x0), (.int .i64 x1), (.bool false), (.int .u8 x3)] := by kernel_rfl
theorem bt8_023 (x0 : Int) (x2 : Bool) (x3 : Int) : Tryz.prog.built 8 [(0, (.int .i64 x0)), (2, (.bool x2)), (3, (.int .u8 x3))] = some #[(.int .i64 x0), (.int .i64 0), (.bool x2), (.int .u8 x3)] := by kernel_rfl
theorem bt8_123 (x1 : Int) (x2 : Bool) (x3 : Int) : Tryz.prog.built 8 [(1, (.int .i64 x1)), (2, (.bool x2)), (3, (.int .u8 x3))] = some #[(.int .i64 0), (.int .i64 x1), (.bool x2), (.int .u8 x3)] := by kernel_rfl
theorem bt8_0123 (x0 : Int) (x1 : Int) (x2 : Bool) (x3 : Int) : Tryz.prog.built 8 [(0, (.int .i64 x0)), (1, (.int .i64 x1)), (2, (.bool x2)), (3, (.int .u8 x3))] = some #[(.int .i64 x0), (.int .i64 x1), (.bool x2), (.int .u8 x3)] := by kernel_rfl
theorem bt13_  : Tryz.prog.built 13 [] = some #[(.string ⟨#[]⟩), (.int .u64 0)] := by kernel_rfl
theorem bt13_0 (x0 : ByteArray) : Tryz.prog.built 13 [(0, (.string x0))] = some #[(.string x0), (.int .u64 0)] := by kernel_rfl
theorem bt13_1 (x1 : Int) : Tryz.prog.built 13 [(1, (.int .u64 x1))] = some #[(.string ⟨#[]⟩), (.int .u64 x1)] := by kernel_rfl
theorem bt13_01 (x0 : ByteArray) (x1 : Int) : Tryz.prog.built 13 [(0, (.string x0)), (1, (.int .u64 x1))] = some #[(.string x0), (.int .u64 x1)] := by kernel_rfl
theorem bt14_  : Tryz.prog.built 14 [] = some #[(.string ⟨#[]⟩), (.int .u64 0)] := by kernel_rfl
theorem bt14_0 (x0 : ByteArray) : Tryz.prog.built 14 [(0, (.string x0))] = some #[(.string x0), (.int .u64 0)] := by kernel_rfl
theorem bt14_1 (x1 : Int) : Tryz.prog.built 14 [(1, (.int .u64 x1))] = some #[(.string ⟨#[]⟩), (.int .u64 x1)] := by kernel_rfl
theorem bt14_01 (x0 : ByteArray) (x1 : Int) : Tryz.prog.built 14 [(0, (.string x0)), (1, (.int .u64 x1))] = some #[(.string x0), (.int .u64 x1)] := by kernel_rfl
theorem bt18_  : Tryz.prog.built 18 [] = some #[(.pointer none)] := by kernel_rfl
theorem bt18_0 (x0 : Option Addr) : Tryz.prog.built 18 [(0, (.pointer x0))] = some #[(.pointer x0)] := by kernel_rfl
theorem bt19_  : Tryz.prog.built 19 [] = some #[(.pointer none)] := by kernel_rfl
theorem bt19_0 (x0 : Option Addr) : Tryz.prog.built 19 [(0, (.pointer x0))] = some #[(.pointer x0)] := by kernel_rfl
theorem bs5_0  : builtSl Tryz.prog 5 0 [] = some #[] := by kernel_rfl
theorem bs5_1 (x0 : Int) : builtSl Tryz.prog 5 1 [(0, (.int .u8 x0))] = some #[(.int .u8 x0)] := by kernel_rfl
theorem bs5_2 (x0 : Int) (x1 : Int) : builtSl Tryz.prog 5 2 [(0, (.int .u8 x0)), (1, (.int .u8 x1))] = some #[(.int .u8 x0), (.int .u8 x1)] := by kernel_rfl
theorem bs5_3 (x0 : Int) (x1 : Int) (x2 : Int) : builtSl Tryz.prog 5 3 [(0, (.int .u8 x0)), (1, (.int .u8 x1)), (2, (.int .u8 x2))] = some #[(.int .u8 x0), (.int .u8 x1), (.int .u8 x2)] := by kernel_rfl
theorem bs5_4 (x0 : Int) (x1 : Int) (x2 : Int) (x3 : Int) : builtSl Tryz.prog 5 4 [(0, (.int .u8 x0)), (1, (.int .u8 x1)), (2, (.int .u8 x2)), (3, (.int .u8 x3))] = some #[(.int .u8 x0), (.int .u8 x1), (.int .u8 x2), (.int .u8 x3)] := by kernel_rfl
theorem bs5_5 (x0 : Int) (x1 : Int) (x2 : Int) (x3 : Int) (x4 : Int) : builtSl Tryz.prog 5 5 [(0, (.int .u8 x0)), (1, (.int .u8 x1)), (2, (.int .u8 x2)), (3, (.int .u8 x3)), (4, (.int .u8 x4))] = some #[(.int .u8 x0), (.int .u8 x1), (.int .u8 x2), (.int .u8 x3), (.int .u8 x4)] := by kernel_rfl
theorem bs5_6 (x0 : Int) (x1 : Int) (x2 : Int) (x3 : Int) (x4 : Int) (x5 : Int) : builtSl Tryz.prog 5 6 [(0, (.int .u8 x0)), (1, (.int .u8 x1)), (2, (.int .u8 x2)), (3, (.int .u8 x3)), (4, (.int .u8 x4)), (5, (.int .u8 x5))] = some #[(.int .u8 x0), (.int .u8 x1), (.int .u8 x2), (.int .u8 x3), (.int .u8 x4), (.int .u8 x5)] := by kernel_rfl
theorem bs39_0  : builtSl Tryz.prog 39 0 [] = some #[] := by kernel_rfl
theorem bs39_1 (v0_0 v0_1 v0_2 : Value) : builtSl Tryz.prog 39 1 [(0, (.agg #[v0_0, v0_1, v0_2]))] = some #[v0_0, v0_1, v0_2] := by kernel_rfl
theorem bs39_2 (v0_0 v0_1 v0_2 : Value) (v1_0 v1_1 v1_2 : Value) : builtSl Tryz.prog 39 2 [(0, (.agg #[v0_0, v0_1, v0_2])), (1, (.agg #[v1_0, v1_1, v1_2]))] = some #[v0_0, v0_1, v0_2, v1_0, v1_1, v1_2] := by kernel_rfl
theorem bs39_3 (v0_0 v0_1 v0_2 : Value) (v1_0 v1_1 v1_2 : Value) (v2_0 v2_1 v2_2 : Value) : builtSl Tryz.prog 39 3 [(0, (.agg #[v0_0, v0_1, v0_2])), (1, (.agg #[v1_0, v1_1, v1_2])), (2, (.agg #[v2_0, v2_1, v2_2]))] = some #[v0_0, v0_1, v0_2, v1_0, v1_1, v1_2, v2_0, v2_1, v2_2] := by kernel_rfl
theorem bs39_4 (v0_0 v0_1 v0_2 : Value) (v1_0 v1_1 v1_2 : Value) (v2_0 v2_1 v2_2 : Value) (v3_0 v3_1 v3_2 : Value) : builtSl Tryz.prog 39 4 [(0, (.agg #[v0_0, v0_1, v0_2])), (1, (.agg #[v1_0, v1_1, v1_2])), (2, (.agg #[v2_0, v2_1, v2_2])), (3, (.agg #[v3_0, v3_1, v3_2]))] = some #[v0_0, v0_1, v0_2, v1_0, v1_1, v1_2, v2_0, v2_1, v2_2, v3_0, v3_1, v3_2] := by kernel_rfl
theorem bs39_5 (v0_0 v0_1 v0_2 : Value) (v1_0 v1_1 v1_2 : Value) (v2_0 v2_1 v2_2 : Value) (v3_0 v3_1 v3_2 : Value) (v4_0 v4_1 v4_2 : Value) : builtSl Tryz.prog 39 5 [(0, (.agg #[v0_0, v0_1, v0_2])), (1, (.agg #[v1_0, v1_1, v1_2])), (2, (.agg #[v2_0, v2_1, v2_2])), (3, (.agg #[v3_0, v3_1, v3_2])), (4, (.agg #[v4_0, v4_1, v4_2]))] = some #[v0_0, v0_1, v0_2, v1_0, v1_1, v1_2, v2_0, v2_1, v2_2, v3_0, v3_1, v3_2, v4_0, v4_1, v4_2] := by kernel_rfl
theorem bs39_6 (v0_0 v0_1 v0_2 : Value) (v1_0 v1_1 v1_2 : Value) (v2_0 v2_1 v2_2 : Value) (v3_0 v3_1 v3_2 : Value) (v4_0 v4_1 v4_2 : Value) (v5_0 v5_1 v5_2 : Value) : builtSl Tryz.prog 39 6 [(0, (.agg #[v0_0, v0_1, v0_2])), (1, (.agg #[v1_0, v1_1, v1_2])), (2, (.agg #[v2_0, v2_1, v2_2])), (3, (.agg #[v3_0, v3_1, v3_2])), (4, (.agg #[v4_0, v4_1, v4_2])), (5, (.agg #[v5_0, v5_1, v5_2]))] = some #[v0_0, v0_1, v0_2, v1_0, v1_1, v1_2, v2_0, v2_1, v2_2, v3_0, v3_1, v3_2, v4_0, v4_1, v4_2, v5_0, v5_1, v5_2] := by kernel_rfl
theorem bt25_  : Tryz.prog.built 25 [] = some #[(.int .i64 0), (.slice none 0 0)] := by kernel_rfl
theorem bt25_0 (x0 : Int) : Tryz.prog.built 25 [(0, (.int .i64 x0))] = some #[(.int .i64 x0), (.slice none 0 0)] := by kernel_rfl
theorem bt25_1 (a1 : Option Addr) (n1 c1 : Nat) : Tryz.prog.built 25 [(1, (.slice a1 n1 c1))] = some #[(.int .i64 0), (.slice a1 n1 c1)] := by kernel_rfl
theorem bt25_01 (x0 : Int) (a1 : Option Addr) (n1 c1 : Nat) : Tryz.prog.built 25 [(0, (.int .i64 x0)), (1, (.slice a1 n1 c1))] = some #[(.int .i64 x0), (.slice a1 n1 c1)] := by kernel_rfl
theorem bt26_  : Tryz.prog.built 26 [] = some #[(.int .i64 0), (.slice none 0 0)] := by kernel_rfl
theorem bt26_0 (x0 : Int) : Tryz.prog.built 26 [(0, (.int .i64 x0))] = some #[(.int .i64 x0), (.slice none 0 0)] := by kernel_rfl
theorem bt26_1 (a1 : Option Addr) (n1 c1 : Nat) : Tryz.prog.built 26 [(1, (.slice a1 n1 c1))] = some #[(.int .i64 0), (.slice a1 n1 c1)] := by kernel_rfl
theorem bt26_01 (x0 : Int) (a1 : Option Addr) (n1 c1 : Nat) : Tryz.prog.built 26 [(0, (.int .i64 x0)), (1, (.slice a1 n1 c1))] = some #[(.int .i64 x0), (.slice a1 n1 c1)] := by kernel_rfl
theorem bs2_0  : builtSl Tryz.prog 2 0 [] = some #[] := by kernel_rfl
theorem bs2_1 (x0 : Int) : builtSl Tryz.prog 2 1 [(0, (.int .i64 x0))] = some #[(.int .i64 x0)] := by kernel_rfl
theorem bs2_2 (x0 : Int) (x1 : Int) : builtSl Tryz.prog 2 2 [(0, (.int .i64 x0)), (1, (.int .i64 x1))] = some #[(.int .i64 x0), (.int .i64 x1)] := by kernel_rfl
theorem bs2_3 (x0 : Int) (x1 : Int) (x2 : Int) : builtSl Tryz.prog 2 3 [(0, (.int .i64 x0)), (1, (.int .i64 x1)), (2, (.int .i64 x2))] = some #[(.int .i64 x0), (.int .i64 x1), (.int .i64 x2)] := by kernel_rfl
theorem bs2_4 (x0 : Int) (x1 : Int) (x2 : Int) (x3 : Int) : builtSl Tryz.prog 2 4 [(0, (.int .i64 x0)), (1, (.int .i64 x1)), (2, (.int .i64 x2)), (3, (.int .i64 x3))] = some #[(.int .i64 x0), (.int .i64 x1), (.int .i64 x2), (.int .i64 x3)] := by kernel_rfl
theorem bs2_5 (x0 : Int) (x1 : Int) (x2 : Int) (x3 : Int) (x4 : Int) : builtSl Tryz.prog 2 5 [(0, (.int .i64 x0)), (1, (.int .i64 x1)), (2, (.int .i64 x2)), (3, (.int .i64 x3)), (4, (.int .i64 x4))] = some #[(.int .i64 x0), (.int .i64 x1), (.int .i64 x2), (.int .i64 x3), (.int .i64 x4)] := by kernel_rfl
theorem bs2_6 (x0 : Int) (x1 : Int) (x2 : Int) (x3 : Int) (x4 : Int) (x5 : Int) : builtSl Tryz.prog 2 6 [(0, (.int .i64 x0)), (1, (.int .i64 x1)), (2, (.int .i64 x2)), (3, (.int .i64 x3)), (4, (.int .i64 x4)), (5, (.int .i64 x5))] = some #[(.int .i64 x0), (.int .i64 x1), (.int .i64 x2), (.int .i64 x3), (.int .i64 x4), (.int .i64 x5)] := by kernel_rfl
theorem bt38_  : Tryz.prog.built 38 [] = some #[(.int .i64 0), (.int .i64 0), (.int .i64 0)] := by kernel_rfl
theorem bt38_0 (x0 : Int) : Tryz.prog.built 38 [(0, (.int .i64 x0))] = some #[(.int .i64 x0), (.int .i64 0), (.int .i64 0)] := by kernel_rfl
theorem bt38_1 (x1 : Int) : Tryz.prog.built 38 [(1, (.int .i64 x1))] = some #[(.int .i64 0), (.int .i64 x1), (.int .i64 0)] := by kernel_rfl
theorem bt38_2 (x2 : Int) : Tryz.prog.built 38 [(2, (.int .i64 x2))] = some #[(.int .i64 0), (.int .i64 0), (.int .i64 x2)] := by kernel_rfl
theorem bt38_01 (x0 : Int) (x1 : Int) : Tryz.prog.built 38 [(0, (.int .i64 x0)), (1, (.int .i64 x1))] = some #[(.int .i64 x0), (.int .i64 x1), (.int .i64 0)] := by kernel_rfl
theorem bt38_02 (x0 : Int) (x2 : Int) : Tryz.prog.built 38 [(0, (.int .i64 x0)), (2, (.int .i64 x2))] = some #[(.int .i64 x0), (.int .i64 0), (.int .i64 x2)] := by kernel_rfl
theorem bt38_12 (x1 : Int) (x2 : Int) : Tryz.prog.built 38 [(1, (.int .i64 x1)), (2, (.int .i64 x2))] = some #[(.int .i64 0), (.int .i64 x1), (.int .i64 x2)] := by kernel_rfl
theorem bt38_012 (x0 : Int) (x1 : Int) (x2 : Int) : Tryz.prog.built 38 [(0, (.int .i64 x0)), (1, (.int .i64 x1)), (2, (.int .i64 x2))] = some #[(.int .i64 x0), (.int .i64 x1), (.int .i64 x2)] := by kernel_rfl
theorem bt39_  : Tryz.prog.built 39 [] = some #[(.int .i64 0), (.int .i64 0), (.int .i64 0)] := by kernel_rfl
theorem bt39_0 (x0 : Int) : Tryz.prog.built 39 [(0, (.int .i64 x0))] = some #[(.int .i64 x0), (.int .i64 0), (.int .i64 0)] := by kernel_rfl
theorem bt39_1 (x1 : Int) : Tryz.prog.built 39 [(1, (.int .i64 x1))] = some #[(.int .i64 0), (.int .i64 x1), (.int .i64 0)] := by kernel_rfl
theorem bt39_2 (x2 : Int) : Tryz.prog.built 39 [(2, (.int .i64 x2))] = some #[(.int .i64 0), (.int .i64 0), (.int .i64 x2)] := by kernel_rfl
theorem bt39_01 (x0 : Int) (x1 : Int) : Tryz.prog.built 39 [(0, (.int .i64 x0)), (1, (.int .i64 x1))] = some #[(.int .i64 x0), (.int .i64 x1), (.int .i64 0)] := by kernel_rfl
theorem bt39_02 (x0 : Int) (x2 : Int) : Tryz.prog.built 39 [(0, (.int .i64 x0)), (2, (.int .i64 x2))] = some #[(.int .i64 x0), (.int .i64 0), (.int .i64 x2)] := by kernel_rfl
theorem bt39_12 (x1 : Int) (x2 : Int) : Tryz.prog.built 39 [(1, (.int .i64 x1)), (2, (.int .i64 x2))] = some #[(.int .i64 0), (.int .i64 x1), (.int .i64 x2)] := by kernel_rfl
theorem bt39_012 (x0 : Int) (x1 : Int) (x2 : Int) : Tryz.prog.built 39 [(0, (.int .i64 x0)), (1, (.int .i64 x1)), (2, (.int .i64 x2))] = some #[(.int .i64 x0), (.int .i64 x1), (.int .i64 x2)] := by kernel_rfl
theorem bt53_  : Tryz.prog.built 53 [] = some #[(.int .i64 0), (.slice none 0 0), (.slice none 0 0)] := by kernel_rfl
theorem bt53_0 (x0 : Int) : Tryz.prog.built 53 [(0, (.int .i64 x0))] = some #[(.int .i64 x0), (.slice none 0 0), (.slice none 0 0)] := by kernel_rfl
theorem bt53_1 (a1 : Option Addr) (n1 c1 : Nat) : Tryz.prog.built 53 [(1, (.slice a1 n1 c1))] = some #[(.int .i64 0), (.slice a1 n1 c1), (.slice none 0 0)] := by kernel_rfl
theorem bt53_2 (a2 : Option Addr) (n2 c2 : Nat) : Tryz.prog.built 53 [(2, (.slice a2 n2 c2))] = some #[(.int .i64 0), (.slice none 0 0), (.slice a2 n2 c2)] := by kernel_rfl
theorem bt53_01 (x0 : Int) (a1 : Option Addr) (n1 c1 : Nat) : Tryz.prog.built 53 [(0, (.int .i64 x0)), (1, (.slice a1 n1 c1))] = some #[(.int .i64 x0), (.slice a1 n1 c1), (.slice none 0 0)] := by kernel_rfl
theorem bt53_02 (x0 : Int) (a2 : Option Addr) (n2 c2 : Nat) : Tryz.prog.built 53 [(0, (.int .i64 x0)), (2, (.slice a2 n2 c2))] = some #[(.int .i64 x0), (.slice none 0 0), (.slice a2 n2 c2)] := by kernel_rfl
theorem bt53_12 (a1 : Option Addr) (n1 c1 : Nat) (a2 : Option Addr) (n2 c2 : Nat) : Tryz.prog.built 53 [(1, (.slice a1 n1 c1)), (2, (.slice a2 n2 c2))] = some #[(.int .i64 0), (.slice a1 n1 c1), (.slice a2 n2 c2)] := by kernel_rfl
theorem bt53_012 (x0 : Int) (a1 : Option Addr) (n1 c1 : Nat) (a2 : Option Addr) (n2 c2 : Nat) : Tryz.prog.built 53 [(0, (.int .i64 x0)), (1, (.slice a1 n1 c1)), (2, (.slice a2 n2 c2))] = some #[(.int .i64 x0), (.slice a1 n1 c1), (.slice a2 n2 c2)] := by kernel_rfl
theorem bt54_  : Tryz.prog.built 54 [] = some #[(.int .i64 0), (.slice none 0 0), (.slice none 0 0)] := by kernel_rfl
theorem bt54_0 (x0 : Int) : Tryz.prog.built 54 [(0, (.int .i64 x0))] = some #[(.int .i64 x0), (.slice none 0 0), (.slice none 0 0)] := by kernel_rfl
theorem bt54_1 (a1 : Option Addr) (n1 c1 : Nat) : Tryz.prog.built 54 [(1, (.slice a1 n1 c1))] = some #[(.int .i64 0), (.slice a1 n1 c1), (.slice none 0 0)] := by kernel_rfl
theorem bt54_2 (a2 : Option Addr) (n2 c2 : Nat) : Tryz.prog.built 54 [(2, (.slice a2 n2 c2))] = some #[(.int .i64 0), (.slice none 0 0), (.slice a2 n2 c2)] := by kernel_rfl
theorem bt54_01 (x0 : Int) (a1 : Option Addr) (n1 c1 : Nat) : Tryz.prog.built 54 [(0, (.int .i64 x0)), (1, (.slice a1 n1 c1))] = some #[(.int .i64 x0), (.slice a1 n1 c1), (.slice none 0 0)] := by kernel_rfl
theorem bt54_02 (x0 : Int) (a2 : Option Addr) (n2 c2 : Nat) : Tryz.prog.built 54 [(0, (.int .i64 x0)), (2, (.slice a2 n2 c2))] = some #[(.int .i64 x0), (.slice none 0 0), (.slice a2 n2 c2)] := by kernel_rfl
theorem bt54_12 (a1 : Option Addr) (n1 c1 : Nat) (a2 : Option Addr) (n2 c2 : Nat) : Tryz.prog.built 54 [(1, (.slice a1 n1 c1)), (2, (.slice a2 n2 c2))] = some #[(.int .i64 0), (.slice a1 n1 c1), (.slice a2 n2 c2)] := by kernel_rfl
theorem bt54_012 (x0 : Int) (a1 : Option Addr) (n1 c1 : Nat) (a2 : Option Addr) (n2 c2 : Nat) : Tryz.prog.built 54 [(0, (.int .i64 x0)), (1, (.slice a1 n1 c1)), (2, (.slice a2 n2 c2))] = some #[(.int .i64 x0), (.slice a1 n1 c1), (.slice a2 n2 c2)] := by kernel_rfl
theorem bs54_0  : builtSl Tryz.prog 54 0 [] = some #[] := by kernel_rfl
theorem bs54_1 (v0_0 v0_1 v0_2 : Value) : builtSl Tryz.prog 54 1 [(0, (.agg #[v0_0, v0_1, v0_2]))] = some #[v0_0, v0_1, v0_2] := by kernel_rfl
theorem bs54_2 (v0_0 v0_1 v0_2 : Value) (v1_0 v1_1 v1_2 : Value) : builtSl Tryz.prog 54 2 [(0, (.agg #[v0_0, v0_1, v0_2])), (1, (.agg #[v1_0, v1_1, v1_2]))] = some #[v0_0, v0_1, v0_2, v1_0, v1_1, v1_2] := by kernel_rfl
theorem bs54_3 (v0_0 v0_1 v0_2 : Value) (v1_0 v1_1 v1_2 : Value) (v2_0 v2_1 v2_2 : Value) : builtSl Tryz.prog 54 3 [(0, (.agg #[v0_0, v0_1, v0_2])), (1, (.agg #[v1_0, v1_1, v1_2])), (2, (.agg #[v2_0, v2_1, v2_2]))] = some #[v0_0, v0_1, v0_2, v1_0, v1_1, v1_2, v2_0, v2_1, v2_2] := by kernel_rfl
theorem bs54_4 (v0_0 v0_1 v0_2 : Value) (v1_0 v1_1 v1_2 : Value) (v2_0 v2_1 v2_2 : Value) (v3_0 v3_1 v3_2 : Value) : builtSl Tryz.prog 54 4 [(0, (.agg #[v0_0, v0_1, v0_2])), (1, (.agg #[v1_0, v1_1, v1_2])), (2, (.agg #[v2_0, v2_1, v2_2])), (3, (.agg #[v3_0, v3_1, v3_2]))] = some #[v0_0, v0_1, v0_2, v1_0, v1_1, v1_2, v2_0, v2_1, v2_2, v3_0, v3_1, v3_2] := by kernel_rfl
theorem bs54_5 (v0_0 v0_1 v0_2 : Value) (v1_0 v1_1 v1_2 : Value) (v2_0 v2_1 v2_2 : Value) (v3_0 v3_1 v3_2 : Value) (v4_0 v4_1 v4_2 : Value) : builtSl Tryz.prog 54 5 [(0, (.agg #[v0_0, v0_1, v0_2])), (1, (.agg #[v1_0, v1_1, v1_2])), (2, (.agg #[v2_0, v2_1, v2_2])), (3, (.agg #[v3_0, v3_1, v3_2])), (4, (.agg #[v4_0, v4_1, v4_2]))] = some #[v0_0, v0_1, v0_2, v1_0, v1_1, v1_2, v2_0, v2_1, v2_2, v3_0, v3_1, v3_2, v4_0, v4_1, v4_2] := by kernel_rfl
theorem bs54_6 (v0_0 v0_1 v0_2 : Value) (v1_0 v1_1 v1_2 : Value) (v2_0 v2_1 v2_2 : Value) (v3_0 v3_1 v3_2 : Value) (v4_0 v4_1 v4_2 : Value) (v5_0 v5_1 v5_2 : Value) : builtSl Tryz.prog 54 6 [(0, (.agg #[v0_0, v0_1, v0_2])), (1, (.agg #[v1_0, v1_1, v1_2])), (2, (.agg #[v2_0, v2_1, v2_2])), (3, (.agg #[v3_0, v3_1, v3_2])), (4, (.agg #[v4_0, v4_1, v4_2])), (5, (.agg #[v5_0, v5_1, v5_2]))] = some #[v0_0, v0_1, v0_2, v1_0, v1_1, v1_2, v2_0, v2_1, v2_2, v3_0, v3_1, v3_2, v4_0, v4_1, v4_2, v5_0, v5_1, v5_2] := by kernel_rfl
theorem bt105_  : Tryz.prog.built 105 [] = some #[(.slice none 0 0), (.int .i64 0), (.int .u64 0)] := by kernel_rfl
theorem bt105_0 (a0 : Option Addr) (n0 c0 : Nat) : Tryz.prog.built 105 [(0, (.slice a0 n0 c0))] = some #[(.slice a0 n0 c0), (.int .i64 0), (.int .u64 0)] := by kernel_rfl
theorem bt105_1 (x1 : Int) : Tryz.prog.built 105 [(1, (.int .i64 x1))] = some #[(.slice none 0 0), (.int .i64 x1), (.int .u64 0)] := by kernel_rfl
theorem bt105_2 (x2 : Int) : Tryz.prog.built 105 [(2, (.int .u64 x2))] = some #[(.slice none 0 0), (.int .i64 0), (.int .u64 x2)] := by kernel_rfl
theorem bt105_01 (a0 : Option Addr) (n0 c0 : Nat) (x1 : Int) : Tryz.prog.built 105 [(0, (.slice a0 n0 c0)), (1, (.int .i64 x1))] = some #[(.slice a0 n0 c0), (.int .i64 x1), (.int .u64 0)] := by kernel_rfl
theorem bt105_02 (a0 : Option Addr) (n0 c0 : Nat) (x2 : Int) : Tryz.prog.built 105 [(0, (.slice a0 n0 c0)), (2, (.int .u64 x2))] = some #[(.slice a0 n0 c0), (.int .i64 0), (.int .u64 x2)] := by kernel_rfl
theorem bt105_12 (x1 : Int) (x2 : Int) : Tryz.prog.built 105 [(1, (.int .i64 x1)), (2, (.int .u64 x2))] = some #[(.slice none 0 0), (.int .i64 x1), (.int .u64 x2)] := by kernel_rfl
theorem bt105_012 (a0 : Option Addr) (n0 c0 : Nat) (x1 : Int) (x2 : Int) : Tryz.prog.built 105 [(0, (.slice a0 n0 c0)), (1, (.int .i64 x1)), (2, (.int .u64 x2))] = some #[(.slice a0 n0 c0), (.int .i64 x1), (.int .u64 x2)] := by kernel_rfl
theorem bt106_  : Tryz.prog.built 106 [] = some #[(.slice none 0 0), (.int .i64 0), (.int .u64 0)] := by kernel_rfl
theorem bt106_0 (a0 : Option Addr) (n0 c0 : Nat) : Tryz.prog.built 106 [(0, (.slice a0 n0 c0))] = some #[(.slice a0 n0 c0), (.int .i64 0), (.int .u64 0)] := by kernel_rfl
theorem bt106_1 (x1 : Int) : Tryz.prog.built 106 [(1, (.int .i64 x1))] = some #[(.slice none 0 0), (.int .i64 x1), (.int .u64 0)] := by kernel_rfl
theorem bt106_2 (x2 : Int) : Tryz.prog.built 106 [(2, (.int .u64 x2))] = some #[(.slice none 0 0), (.int .i64 0), (.int .u64 x2)] := by kernel_rfl
theorem bt106_01 (a0 : Option Addr) (n0 c0 : Nat) (x1 : Int) : Tryz.prog.built 106 [(0, (.slice a0 n0 c0)), (1, (.int .i64 x1))] = some #[(.slice a0 n0 c0), (.int .i64 x1), (.int .u64 0)] := by kernel_rfl
theorem bt106_02 (a0 : Option Addr) (n0 c0 : Nat) (x2 : Int) : Tryz.prog.built 106 [(0, (.slice a0 n0 c0)), (2, (.int .u64 x2))] = some #[(.slice a0 n0 c0), (.int .i64 0), (.int .u64 x2)] := by kernel_rfl
theorem bt106_12 (x1 : Int) (x2 : Int) : Tryz.prog.built 106 [(1, (.int .i64 x1)), (2, (.int .u64 x2))] = some #[(.slice none 0 0), (.int .i64 x1), (.int .u64 x2)] := by kernel_rfl
theorem bt106_012 (a0 : Option Addr) (n0 c0 : Nat) (x1 : Int) (x2 : Int) : Tryz.prog.built 106 [(0, (.slice a0 n0 c0)), (1, (.int .i64 x1)), (2, (.int .u64 x2))] = some #[(.slice a0 n0 c0), (.int .i64 x1), (.int .u64 x2)] := by kernel_rfl
theorem bs9_0  : builtSl Tryz.prog 9 0 [] = some #[] := by kernel_rfl
theorem bs9_1 (x0 : ByteArray) : builtSl Tryz.prog 9 1 [(0, (.string x0))] = some #[(.string x0)] := by kernel_rfl
theorem bs9_2 (x0 : ByteArray) (x1 : ByteArray) : builtSl Tryz.prog 9 2 [(0, (.string x0)), (1, (.string x1))] = some #[(.string x0), (.string x1)] := by kernel_rfl
theorem bs9_3 (x0 : ByteArray) (x1 : ByteArray) (x2 : ByteArray) : builtSl Tryz.prog 9 3 [(0, (.string x0)), (1, (.string x1)), (2, (.string x2))] = some #[(.string x0), (.string x1), (.string x2)] := by kernel_rfl
theorem bs9_4 (x0 : ByteArray) (x1 : ByteArray) (x2 : ByteArray) (x3 : ByteArray) : builtSl Tryz.prog 9 4 [(0, (.string x0)), (1, (.string x1)), (2, (.string x2)), (3, (.string x3))] = some #[(.string x0), (.string x1), (.string x2), (.string x3)] := by kernel_rfl
theorem bs9_5 (x0 : ByteArray) (x1 : ByteArray) (x2 : ByteArray) (x3 : ByteArray) (x4 : ByteArray) : builtSl Tryz.prog 9 5 [(0, (.string x0)), (1, (.string x1)), (2, (.string x2)), (3, (.string x3)), (4, (.string x4))] = some #[(.string x0), (.string x1), (.string x2), (.string x3), (.string x4)] := by kernel_rfl
theorem bs9_6 (x0 : ByteArray) (x1 : ByteArray) (x2 : ByteArray) (x3 : ByteArray) (x4 : ByteArray) (x5 : ByteArray) : builtSl Tryz.prog 9 6 [(0, (.string x0)), (1, (.string x1)), (2, (.string x2)), (3, (.string x3)), (4, (.string x4)), (5, (.string x5))] = some #[(.string x0), (.string x1), (.string x2), (.string x3), (.string x4), (.string x5)] := by kernel_rfl
theorem bs24_0  : builtSl Tryz.prog 24 0 [] = some #[] := by kernel_rfl
theorem bs24_1 (a0 : Option Addr) (n0 c0 : Nat) : builtSl Tryz.prog 24 1 [(0, (.slice a0 n0 c0))] = some #[(.slice a0 n0 c0)] := by kernel_rfl
theorem bs24_2 (a0 : Option Addr) (n0 c0 : Nat) (a1 : Option Addr) (n1 c1 : Nat) : builtSl Tryz.prog 24 2 [(0, (.slice a0 n0 c0)), (1, (.slice a1 n1 c1))] = some #[(.slice a0 n0 c0), (.slice a1 n1 c1)] := by kernel_rfl
theorem bs24_3 (a0 : Option Addr) (n0 c0 : Nat) (a1 : Option Addr) (n1 c1 : Nat) (a2 : Option Addr) (n2 c2 : Nat) : builtSl Tryz.prog 24 3 [(0, (.slice a0 n0 c0)), (1, (.slice a1 n1 c1)), (2, (.slice a2 n2 c2))] = some #[(.slice a0 n0 c0), (.slice a1 n1 c1), (.slice a2 n2 c2)] := by kernel_rfl
theorem bs24_4 (a0 : Option Addr) (n0 c0 : Nat) (a1 : Option Addr) (n1 c1 : Nat) (a2 : Option Addr) (n2 c2 : Nat) (a3 : Option Addr) (n3 c3 : Nat) : builtSl Tryz.prog 24 4 [(0, (.slice a0 n0 c0)), (1, (.slice a1 n1 c1)), (2, (.slice a2 n2 c2)), (3, (.slice a3 n3 c3))] = some #[(.slice a0 n0 c0), (.slice a1 n1 c1), (.slice a2 n2 c2), (.slice a3 n3 c3)] := by kernel_rfl
theorem bs24_5 (a0 : Option Addr) (n0 c0 : Nat) (a1 : Option Addr) (n1 c1 : Nat) (a2 : Option Addr) (n2 c2 : Nat) (a3 : Option Addr) (n3 c3 : Nat) (a4 : Option Addr) (n4 c4 : Nat) : builtSl Tryz.prog 24 5 [(0, (.slice a0 n0 c0)), (1, (.slice a1 n1 c1)), (2, (.slice a2 n2 c2)), (3, (.slice a3 n3 c3)), (4, (.slice a4 n4 c4))] = some #[(.slice a0 n0 c0), (.slice a1 n1 c1), (.slice a2 n2 c2), (.slice a3 n3 c3), (.slice a4 n4 c4)] := by kernel_rfl
theorem bs24_6 (a0 : Option Addr) (n0 c0 : Nat) (a1 : Option Addr) (n1 c1 : Nat) (a2 : Option Addr) (n2 c2 : Nat) (a3 : Option Addr) (n3 c3 : Nat) (a4 : Option Addr) (n4 c4 : Nat) (a5 : Option Addr) (n5 c5 : Nat) : builtSl Tryz.prog 24 6 [(0, (.slice a0 n0 c0)), (1, (.slice a1 n1 c1)), (2, (.slice a2 n2 c2)), (3, (.slice a3 n3 c3)), (4, (.slice a4 n4 c4)), (5, (.slice a5 n5 c5))] = some #[(.slice a0 n0 c0), (.slice a1 n1 c1), (.slice a2 n2 c2), (.slice a3 n3 c3), (.slice a4 n4 c4), (.slice a5 n5 c5)] := by kernel_rfl
theorem bs4_0  : builtSl Tryz.prog 4 0 [] = some #[] := by kernel_rfl
theorem bs4_1 (x0 : Bool) : builtSl Tryz.prog 4 1 [(0, (.bool x0))] = some #[(.bool x0)] := by kernel_rfl
theorem bs4_2 (x0 : Bool) (x1 : Bool) : builtSl Tryz.prog 4 2 [(0, (.bool x0)), (1, (.bool x1))] = some #[(.bool x0), (.bool x1)] := by kernel_rfl
theorem bs4_3 (x0 : Bool) (x1 : Bool) (x2 : Bool) : builtSl Tryz.prog 4 3 [(0, (.bool x0)), (1, (.bool x1)), (2, (.bool x2))] = some #[(.bool x0), (.bool x1), (.bool x2)] := by kernel_rfl
theorem bs4_4 (x0 : Bool) (x1 : Bool) (x2 : Bool) (x3 : Bool) : builtSl Tryz.prog 4 4 [(0, (.bool x0)), (1, (.bool x1)), (2, (.bool x2)), (3, (.bool x3))] = some #[(.bool x0), (.bool x1), (.bool x2), (.bool x3)] := by kernel_rfl
theorem bs4_5 (x0 : Bool) (x1 : Bool) (x2 : Bool) (x3 : Bool) (x4 : Bool) : builtSl Tryz.prog 4 5 [(0, (.bool x0)), (1, (.bool x1)), (2, (.bool x2)), (3, (.bool x3)), (4, (.bool x4))] = some #[(.bool x0), (.bool x1), (.bool x2), (.bool x3), (.bool x4)] := by kernel_rfl
theorem bs4_6 (x0 : Bool) (x1 : Bool) (x2 : Bool) (x3 : Bool) (x4 : Bool) (x5 : Bool) : builtSl Tryz.prog 4 6 [(0, (.bool x0)), (1, (.bool x1)), (2, (.bool x2)), (3, (.bool x3)), (4, (.bool x4)), (5, (.bool x5))] = some #[(.bool x0), (.bool x1), (.bool x2), (.bool x3), (.bool x4), (.bool x5)] := by kernel_rfl
theorem bs137_0  : builtSl Tryz.prog 137 0 [] = some #[] := by kernel_rfl
theorem bs137_1 (v0_0 v0_1 : Value) : builtSl Tryz.prog 137 1 [(0, (.agg #[v0_0, v0_1]))] = some #[v0_0, v0_1] := by kernel_rfl
theorem bs137_2 (v0_0 v0_1 : Value) (v1_0 v1_1 : Value) : builtSl Tryz.prog 137 2 [(0, (.agg #[v0_0, v0_1])), (1, (.agg #[v1_0, v1_1]))] = some #[v0_0, v0_1, v1_0, v1_1] := by kernel_rfl
theorem bs137_3 (v0_0 v0_1 : Value) (v1_0 v1_1 : Value) (v2_0 v2_1 : Value) : builtSl Tryz.prog 137 3 [(0, (.agg #[v0_0, v0_1])), (1, (.agg #[v1_0, v1_1])), (2, (.agg #[v2_0, v2_1]))] = some #[v0_0, v0_1, v1_0, v1_1, v2_0, v2_1] := by kernel_rfl
theorem bs137_4 (v0_0 v0_1 : Value) (v1_0 v1_1 : Value) (v2_0 v2_1 : Value) (v3_0 v3_1 : Value) : builtSl Tryz.prog 137 4 [(0, (.agg #[v0_0, v0_1])), (1, (.agg #[v1_0, v1_1])), (2, (.agg #[v2_0, v2_1])), (3, (.agg #[v3_0, v3_1]))] = some #[v0_0, v0_1, v1_0, v1_1, v2_0, v2_1, v3_0, v3_1] := by kernel_rfl
theorem bs137_5 (v0_0 v0_1 : Value) (v1_0 v1_1 : Value) (v2_0 v2_1 : Value) (v3_0 v3_1 : Value) (v4_0 v4_1 : Value) : builtSl Tryz.prog 137 5 [(0, (.agg #[v0_0, v0_1])), (1, (.agg #[v1_0, v1_1])), (2, (.agg #[v2_0, v2_1])), (3, (.agg #[v3_0, v3_1])), (4, (.agg #[v4_0, v4_1]))] = some #[v0_0, v0_1, v1_0, v1_1, v2_0, v2_1, v3_0, v3_1, v4_0, v4_1] := by kernel_rfl
theorem bs137_6 (v0_0 v0_1 : Value) (v1_0 v1_1 : Value) (v2_0 v2_1 : Value) (v3_0 v3_1 : Value) (v4_0 v4_1 : Value) (v5_0 v5_1 : Value) : builtSl Tryz.prog 137 6 [(0, (.agg #[v0_0, v0_1])), (1, (.agg #[v1_0, v1_1])), (2, (.agg #[v2_0, v2_1])), (3, (.agg #[v3_0, v3_1])), (4, (.agg #[v4_0, v4_1])), (5, (.agg #[v5_0, v5_1]))] = some #[v0_0, v0_1, v1_0, v1_1, v2_0, v2_1, v3_0, v3_1, v4_0, v4_1, v5_0, v5_1] := by kernel_rfl
theorem bt137_  : Tryz.prog.built 137 [] = some #[(.int .i64 0), (.int .i64 0)] := by kernel_rfl
theorem bt137_0 (x0 : Int) : Tryz.prog.built 137 [(0, (.int .i64 x0))] = some #[(.int .i64 x0), (.int .i64 0)] := by kernel_rfl
theorem bt137_1 (x1 : Int) : Tryz.prog.built 137 [(1, (.int .i64 x1))] = some #[(.int .i64 0), (.int .i64 x1)] := by kernel_rfl
theorem bt137_01 (x0 : Int) (x1 : Int) : Tryz.prog.built 137 [(0, (.int .i64 x0)), (1, (.int .i64 x1))] = some #[(.int .i64 x0), (.int .i64 x1)] := by kernel_rfl
theorem bt204_  : Tryz.prog.built 204 [] = some #[(.pointer none), (.pointer none), (.pointer none), (.string ⟨#[]⟩)] := by kernel_rfl
theorem bt204_0 (x0 : Option Addr) : Tryz.prog.built 204 [(0, (.pointer x0))] = some #[(.pointer x0), (.pointer none), (.pointer none), (.string ⟨#[]⟩)] := by kernel_rfl
theorem bt204_1 (x1 : Option Addr) : Tryz.prog.built 204 [(1, (.pointer x1))] = some #[(.pointer none), (.pointer x1), (.pointer none), (.string ⟨#[]⟩)] := by kernel_rfl
theorem bt204_2 (x2 : Option Addr) : Tryz.prog.built 204 [(2, (.pointer x2))] = some #[(.pointer none), (.pointer none), (.pointer x2), (.string ⟨#[]⟩)] := by kernel_rfl
theorem bt204_3 (x3 : ByteArray) : Tryz.prog.built 204 [(3, (.string x3))] = some #[(.pointer none), (.pointer none), (.pointer none), (.string x3)] := by kernel_rfl
theorem bt204_01 (x0 : Option Addr) (x1 : Option Addr) : Tryz.prog.built 204 [(0, (.pointer x0)), (1, (.pointer x1))] = some #[(.pointer x0), (.pointer x1), (.pointer none), (.string ⟨#[]⟩)] := by kernel_rfl
theorem bt204_02 (x0 : Option Addr) (x2 : Option Addr) : Tryz.prog.built 204 [(0, (.pointer x0)), (2, (.pointer x2))] = some #[(.pointer x0), (.pointer none), (.pointer x2), (.string ⟨#[]⟩)] := by kernel_rfl
theorem bt204_03 (x0 : Option Addr) (x3 : ByteArray) : Tryz.prog.built 204 [(0, (.pointer x0)), (3, (.string x3))] = some #[(.pointer x0), (.pointer none), (.pointer none), (.string x3)] := by kernel_rfl
theorem bt204_12 (x1 : Option Addr) (x2 : Option Addr) : Tryz.prog.built 204 [(1, (.pointer x1)), (2, (.pointer x2))] = some #[(.pointer none), (.pointer x1), (.pointer x2), (.string ⟨#[]⟩)] := by kernel_rfl
theorem bt204_13 (x1 : Option Addr) (x3 : ByteArray) : Tryz.prog.built 204 [(1, (.pointer x1)), (3, (.string x3))] = some #[(.pointer none), (.pointer x1), (.pointer none), (.string x3)] := by kernel_rfl
theorem bt204_23 (x2 : Option Addr) (x3 : ByteArray) : Tryz.prog.built 204 [(2, (.pointer x2)), (3, (.string x3))] = some #[(.pointer none), (.pointer none), (.pointer x2), (.string x3)] := by kernel_rfl
theorem bt204_012 (x0 : Option Addr) (x1 : Option Addr) (x2 : Option Addr) : Tryz.prog.built 204 [(0, (.pointer x0)), (1, (.pointer x1)), (2, (.pointer x2))] = some #[(.pointer x0), (.pointer x1), (.pointer x2), (.string ⟨#[]⟩)] := by kernel_rfl
theorem bt204_013 (x0 : Option Addr) (x1 : Option Addr) (x3 : ByteArray) : Tryz.prog.built 204 [(0, (.pointer x0)), (1, (.pointer x1)), (3, (.string x3))] = some #[(.pointer x0), (.pointer x1), (.pointer none), (.string x3)] := by kernel_rfl
theorem bt204_023 (x0 : Option Addr) (x2 : Option Addr) (x3 : ByteArray) : Tryz.prog.built 204 [(0, (.pointer x0)), (2, (.pointer x2)), (3, (.string x3))] = some #[(.pointer x0), (.pointer none), (.pointer x2), (.string x3)] := by kernel_rfl
theorem bt204_123 (x1 : Option Addr) (x2 : Option Addr) (x3 : ByteArray) : Tryz.prog.built 204 [(1, (.pointer x1)), (2, (.pointer x2)), (3, (.string x3))] = some #[(.pointer none), (.pointer x1), (.pointer x2), (.string x3)] := by kernel_rfl
theorem bt204_0123 (x0 : Option Addr) (x1 : Option Addr) (x2 : Option Addr) (x3 : ByteArray) : Tryz.prog.built 204 [(0, (.pointer x0)), (1, (.pointer x1)), (2, (.pointer x2)), (3, (.string x3))] = some #[(.pointer x0), (.pointer x1), (.pointer x2), (.string x3)] := by kernel_rfl
theorem bt205_  : Tryz.prog.built 205 [] = some #[(.pointer none), (.pointer none), (.pointer none), (.string ⟨#[]⟩)] := by kernel_rfl
theorem bt205_0 (x0 : Option Addr) : Tryz.prog.built 205 [(0, (.pointer x0))] = some #[(.pointer x0), (.pointer none), (.pointer none), (.string ⟨#[]⟩)] := by kernel_rfl
theorem bt205_1 (x1 : Option Addr) : Tryz.prog.built 205 [(1, (.pointer x1))] = some #[(.pointer none), (.pointer x1), (.pointer none), (.string ⟨#[]⟩)] := by kernel_rfl
theorem bt205_2 (x2 : Option Addr) : Tryz.prog.built 205 [(2, (.pointer x2))] = some #[(.pointer none), (.pointer none), (.pointer x2), (.string ⟨#[]⟩)] := by kernel_rfl
theorem bt205_3 (x3 : ByteArray) : Tryz.prog.built 205 [(3, (.string x3))] = some #[(.pointer none), (.pointer none), (.pointer none), (.string x3)] := by kernel_rfl
theorem bt205_01 (x0 : Option Addr) (x1 : Option Addr) : Tryz.prog.built 205 [(0, (.pointer x0)), (1, (.pointer x1))] = some #[(.pointer x0), (.pointer x1), (.pointer none), (.string ⟨#[]⟩)] := by kernel_rfl
theorem bt205_02 (x0 : Option Addr) (x2 : Option Addr) : Tryz.prog.built 205 [(0, (.pointer x0)), (2, (.pointer x2))] = some #[(.pointer x0), (.pointer none), (.pointer x2), (.string ⟨#[]⟩)] := by kernel_rfl
theorem bt205_03 (x0 : Option Addr) (x3 : ByteArray) : Tryz.prog.built 205 [(0, (.pointer x0)), (3, (.string x3))] = some #[(.pointer x0), (.pointer none), (.pointer none), (.string x3)] := by kernel_rfl
theorem bt205_12 (x1 : Option Addr) (x2 : Option Addr) : Tryz.prog.built 205 [(1, (.pointer x1)), (2, (.pointer x2))] = some #[(.pointer none), (.pointer x1), (.pointer x2), (.string ⟨#[]⟩)] := by kernel_rfl
theorem bt205_13 (x1 : Option Addr) (x3 : ByteArray) : Tryz.prog.built 205 [(1, (.pointer x1)), (3, (.string x3))] = some #[(.pointer none), (.pointer x1), (.pointer none), (.string x3)] := by kernel_rfl
theorem bt205_23 (x2 : Option Addr) (x3 : ByteArray) : Tryz.prog.built 205 [(2, (.pointer x2)), (3, (.string x3))] = some #[(.pointer none), (.pointer none), (.pointer x2), (.string x3)] := by kernel_rfl
theorem bt205_012 (x0 : Option Addr) (x1 : Option Addr) (x2 : Option Addr) : Tryz.prog.built 205 [(0, (.pointer x0)), (1, (.pointer x1)), (2, (.pointer x2))] = some #[(.pointer x0), (.pointer x1), (.pointer x2), (.string ⟨#[]⟩)] := by kernel_rfl
theorem bt205_013 (x0 : Option Addr) (x1 : Option Addr) (x3 : ByteArray) : Tryz.prog.built 205 [(0, (.pointer x0)), (1, (.pointer x1)), (3, (.string x3))] = some #[(.pointer x0), (.pointer x1), (.pointer none), (.string x3)] := by kernel_rfl
theorem bt205_023 (x0 : Option Addr) (x2 : Option Addr) (x3 : ByteArray) : Tryz.prog.built 205 [(0, (.pointer x0)), (2, (.pointer x2)), (3, (.string x3))] = some #[(.pointer x0), (.pointer none), (.pointer x2), (.string x3)] := by kernel_rfl
theorem bt205_123 (x1 : Option Addr) (x2 : Option Addr) (x3 : ByteArray) : Tryz.prog.built 205 [(1, (.pointer x1)), (2, (.pointer x2)), (3, (.string x3))] = some #[(.pointer none), (.pointer x1), (.pointer x2), (.string x3)] := by kernel_rfl
theorem bt205_0123 (x0 : Option Addr) (x1 : Option Addr) (x2 : Option Addr) (x3 : ByteArray) : Tryz.prog.built 205 [(0, (.pointer x0)), (1, (.pointer x1)), (2, (.pointer x2)), (3, (.string x3))] = some #[(.pointer x0), (.pointer x1), (.pointer x2), (.string x3)] := by kernel_rfl
theorem bt207_  : Tryz.prog.built 207 [] = some #[] := by kernel_rfl
theorem bt208_  : Tryz.prog.built 208 [] = some #[] := by kernel_rfl
attribute [go_sem] bt7_ bt7_0 bt7_1 bt7_2 bt7_3 bt7_01 bt7_02 bt7_03 bt7_12 bt7_13 bt7_23 bt7_012 bt7_013 bt7_023 bt7_123 bt7_0123 bt8_ bt8_0 bt8_1 bt8_2 bt8_3 bt8_01 bt8_02 bt8_03 bt8_12 bt8_13 bt8_23 bt8_012 bt8_013 bt8_023 bt8_123 bt8_0123 bt13_ bt13_0 bt13_1 bt13_01 bt14_ bt14_0 bt14_1 bt14_01 bt18_ bt18_0 bt19_ bt19_0 bs5_0 bs5_1 bs5_2 bs5_3 bs5_4 bs5_5 bs5_6 bs39_0 bs39_1 bs39_2 bs39_3 bs39_4 bs39_5 bs39_6 bt25_ bt25_0 bt25_1 bt25_01 bt26_ bt26_0 bt26_1 bt26_01 bs2_0 bs2_1 bs2_2 bs2_3 bs2_4 bs2_5 bs2_6 bt38_ bt38_0 bt38_1 bt38_2 bt38_01 bt38_02 bt38_12 bt38_012 bt39_ bt39_0 bt39_1 bt39_2 bt39_01 bt39_02 bt39_12 bt39_012 bt53_ bt53_0 bt53_1 bt53_2 bt53_01 bt53_02 bt53_12 bt53_012 bt54_ bt54_0 bt54_1 bt54_2 bt54_01 bt54_02 bt54_12 bt54_012 bs54_0 bs54_1 bs54_2 bs54_3 bs54_4 bs54_5 bs54_6 bt105_ bt105_0 bt105_1 bt105_2 bt105_01 bt105_02 bt105_12 bt105_012 bt106_ bt106_0 bt106_1 bt106_2 bt106_01 bt106_02 bt106_12 bt106_012 bs9_0 bs9_1 bs9_2 bs9_3 bs9_4 bs9_5 bs9_6 bs24_0 bs24_1 bs24_2 bs24_3 bs24_4 bs24_5 bs24_6 bs4_0 bs4_1 bs4_2 bs4_3 bs4_4 bs4_5 bs4_6 bs137_0 bs137_1 bs137_2 bs137_3 bs137_4 bs137_5 bs137_6 bt137_ bt137_0 bt137_1 bt137_01 bt204_ bt204_0 bt204_1 bt204_2 bt204_3 bt204_01 bt204_02 bt204_03 bt204_12 bt204_13 bt204_23 bt204_012 bt204_013 bt204_023 bt204_123 bt204_0123 bt205_ bt205_0 bt205_1 bt205_2 bt205_3 bt205_01 bt205_02 bt205_03 bt205_12 bt205_13 bt205_23 bt205_012 bt205_013 bt205_023 bt205_123 bt205_0123 bt207_ bt208_
attribute [go_sem] ti2 zok2 Tryz.underlying2 ti3 zok3 Tryz.underlying3 ti4 zok4 Tryz.underlying4 ti5 zok5 Tryz.underlying5 ti6 zok6 Tryz.underlying6 ti7 zok7 Tryz.underlying7 ti8 zok8 Tryz.underlying8 ti9 zok9 Tryz.underlying9 ti10 zok10 Tryz.underlying10 ti11 zok11 Tryz.underlying11 ti12 zok12 Tryz.underlying12 ti13 zok13 Tryz.underlying13 ti14 zok14 Tryz.underlying14 ti15 zok15 Tryz.underlying15 ti16 zok16 Tryz.underlying16 ti17 zok17 Tryz.underlying17 ti18 zok18 Tryz.underlying18 ti19 zok19 Tryz.underlying19 ti21 zok21 Tryz.underlying21 ti22 zok22 Tryz.underlying22 ti24 zok24 Tryz.underlying24 ti25 zok25 Tryz.underlying25 ti26 zok26 Tryz.underlying26 ti36 zok36 Tryz.underlying36 ti38 zok38 Tryz.underlying38 ti39 zok39 Tryz.underlying39 ti53 zok53 Tryz.underlying53 ti54 zok54 Tryz.underlying54 ti56 zok56 Tryz.underlying56 ti62 zok62 Tryz.underlying62 ti73 zok73 Tryz.underlying73 ti104 zok104 Tryz.underlying104 ti105 zok105 Tryz.underlying105 ti106 zok106 Tryz.underlying106 ti107 zok107 Tryz.underlying107 ti108 zok108 Tryz.underlying108 ti116 zok116 Tryz.underlying116 ti120 zok120 Tryz.underlying120 ti126 zok126 Tryz.underlying126 ti136 zok136 Tryz.underlying136 ti137 zok137 Tryz.underlying137 ti158 zok158 Tryz.underlying158 ti167 zok167 Tryz.underlying167 ti170 zok170 Tryz.underlying170 ti171 zok171 Tryz.underlying171 ti177 zok177 Tryz.underlying177 ti181 zok181 Tryz.underlying181 ti194 zok194 Tryz.underlying194 ti204 zok204 Tryz.underlying204 ti205 zok205 Tryz.underlying205 ti206 zok206 Tryz.underlying206 ti207 zok207 Tryz.underlying207 ti208 zok208 Tryz.underlying208 ti210 zok210 Tryz.underlying210 ti211 zok211 Tryz.underlying211 ti213 zok213 Tryz.underlying213 ti214 zok214 Tryz.underlying214 ti215 zok215 Tryz.underlying215 ti216 zok216 Tryz.underlying216 ti217 zok217 Tryz.underlying217
end Go.Proofs.YtfnegaedkomcgaaGreat
end

section
namespace Go.Proofs.YtfnegaedkomcgaaGreat
open Go.Ab
theorem own : ownKnob Tryz.prog.godebug = none := by kernel_rfl
theorem laidOut : laidOutB Tryz.prog = true := by kernel_rfl
theorem mixed : Tryz.prog.follows .mixedOrders = true := by kernel_rfl
theorem head_io : Tryz.prog.initOrder = "harness" ++ (" " ++ ("df457ca31fb11e1515dc1ff069992e48e170ee0d1d0cb9da692f5717a3b00fd3" ++ (" " ++ ("cut" ++ (" " ++ ("at" ++ (" " ++ "loop.example/g01355/laws.FnMadeSystems loop.example/g01355/laws.FnBlocks loop.example/g01355/laws.FnTradeParts"))))))) := by kernel_rfl
theorem head_ws : behindMainWord (wordsSigns Tryz.prog.initOrder.toList) = "cut".toList :: "at".toList :: wordsSigns "loop.example/g01355/laws.FnMadeSystems loop.example/g01355/laws.FnBlocks loop.example/g01355/laws.FnTradeParts".toList :=
  cut_words head_io (by kernel_rfl) (by kernel_rfl) (by kernel_rfl) (by kernel_rfl) (by kernel_rfl) (by kernel_rfl)
theorem mkFact : Tryz.prog.make = some .cut := make_of head_ws (by kernel_rfl) (by kernel_rfl)
theorem liftFact : Tryz.prog.liftsFinal = false := liftsFinal_of head_ws
theorem enterFact : Tryz.prog.mayEnter = true := mayEnter_of head_ws (by kernel_rfl) (by kernel_rfl) (by kernel_rfl)
theorem rowedFact : mapsRowed Tryz.prog = true := by kernel_rfl
theorem heardFact : Tryz.prog.stopsHeard = true := by kernel_rfl
end Go.Proofs.YtfnegaedkomcgaaGreat
end

section
namespace Go.Ab

def Same (S : Nat -> Prop) (H H' : Heap) : Prop := H.length <= H'.length /\ ∀ j, j < H.length -> ¬ S j -> H'[j]? = H[j]?

theorem Same.refl (S : Nat -> Prop) (H : Heap) : Same S H H := ⟨Nat.le_refl _, fun _ _ _ => rfl⟩
theorem Same.trans {S : Nat -> Prop} {H H' H'' : Heap} (h : Same S H H') (h' : Same S H' H'') : Same S H H'' :=
  ⟨Nat.le_trans h.1 h'.1, fun j hj hs => (h'.2 j (Nat.lt_of_lt_of_le hj h.1) hs).trans (h.2 j hj hs)⟩
theorem Same.mono {S T : Nat -> Prop} {H H' : Heap} (h : Same S H H') (hst : ∀ j, j < H.length -> S j -> T j) : Same T H H' :=
  ⟨h.1, fun j hj hs => h.2 j hj fun hS => hs (hst j hj hS)⟩
theorem Same.of_prefix {S : Nat -> Prop} {H H' : Heap} (h : H <+: H') : Same S H H' := by
  obtain ⟨t, rfl⟩ := h
  exact ⟨by simp, fun j hj _ => List.getElem?_append_left hj⟩
theorem Same.prefix {S : Nat -> Prop} {H H' : Heap} (h : Same S H H') (hs : ∀ j, j < H.length -> ¬ S j) : H <+: H' := by
  rw [List.prefix_iff_eq_take]
  apply List.ext_getElem?
  intro j
  by_cases hj : j < H.length
  · rw [List.getElem?_take, if_pos hj, h.2 j hj (hs j hj)]
  · rw [List.getElem?_take, if_neg hj, List.getElem?_eq_none (by omega)]
theorem Same.get {S : Nat -> Prop} {H H' : Heap} (h : Same S H H') {j : Nat} {b : Blk} (hb : H[j]? = some b) (hs : ¬ S j) : H'[j]? = some b := by
  rw [h.2 j (List.getElem?_eq_some_iff.1 hb).1 hs]; exact hb

theorem pget {H H' : Heap} (hp : H <+: H') {j : Nat} {b : Blk} (hb : H[j]? = some b) : H'[j]? = some b := Same.get (S := fun _ => False) (Same.of_prefix hp) hb (fun h => h)
def OL (e : Nat) (H : Heap) (id : Nat) (cs : List Value) (n : Nat) : Prop :=
  cs.length = n * e /\ ((n = 0 /\ ghostAt H id = true) \/ H[id]? = some ⟨cs, true, true⟩)

theorem OL.lt {e : Nat} {H : Heap} {id : Nat} {cs : List Value} {n : Nat} (h : OL e H id cs n) : id < H.length := by
  rcases h.2 with ⟨_, h⟩ | h
  · obtain ⟨b, hb, _⟩ := ghostAt_inv h
    exact (List.getElem?_eq_some_iff.1 hb).1
  · exact (List.getElem?_eq_some_iff.1 h).1

theorem OL.at {e : Nat} {H : Heap} {id : Nat} {cs : List Value} {n : Nat} (h : OL e H id cs n) : At H id 0 cs := by
  rcases h.2 with ⟨h0, _⟩ | h'
  · left; subst h0; exact List.eq_nil_of_length_eq_zero (by simpa using h.1)
  · exact Holds.at ⟨true, h'⟩

theorem OL.ghost (e : Nat) (H : Heap) : OL e (H ++ [⟨[], false, false⟩]) H.length [] 0 :=
  ⟨by simp, .inl ⟨rfl, by simp [ghostAt]⟩⟩

theorem OL.keep {e : Nat} {H H' : Heap} {id : Nat} {cs : List Value} {n : Nat} (h : OL e H id cs n) {S : Nat -> Prop} (hs : Same S H H') (hi : ¬ S id) : OL e H' id cs n := by
  refine ⟨h.1, ?_⟩
  rcases h.2 with ⟨h0, h'⟩ | h'
  · left
    obtain ⟨b, hb, h1, h2⟩ := ghostAt_inv h'
    refine ⟨h0, ?_⟩
    have := hs.get hb hi
    simp [ghostAt, this, h1, h2]
  · right; exact hs.get h' hi

theorem OL.append {e : Nat} {H : Heap} {id : Nat} {cs : List Value} {n : Nat} (h : OL e H id cs n) (he : 0 < e) {m : Nat} (hm : 0 < m) {news : List Value} (hn : news.length = m * e) :
    ∃ H', appendH H e (lv e id 0 n) m news = some (lv e H.length 0 (n + m), H') /\ OL e H' H.length (cs ++ news) (n + m) /\ Same (fun j => j = id) H H' /\ H'.length = H.length + 1 := by
  rcases h.2 with ⟨h0, hg⟩ | hb
  · subst h0
    have : cs = [] := List.eq_nil_of_length_eq_zero (by simpa using h.1)
    subst this
    refine ⟨H ++ [⟨news, true, true⟩], ?_, ⟨by simpa using hn, .inr (by simp)⟩, Same.of_prefix (List.prefix_append _ _), by simp⟩
    simp [appendH, show ¬ m = 0 by omega, he, hg]
  · have hc : cellsAt H id 0 (n * e) = some cs := by rw [<- h.1, cellsAt_of hb rfl (by simp)]; simp
    have hown : ownAt H id = true := by simp [ownAt, hb]
    have hng : ghostAt H id = false := by simp [ghostAt, hb]
    refine ⟨H.kill id ++ [⟨cs ++ news, true, true⟩], ?_, ⟨by simp [h.1, hn, Nat.add_mul], .inr (by rw [List.getElem?_append_right (by rw [Heap.kill_length]; exact Nat.le_refl _), Heap.kill_length]; simp)⟩, ⟨by simp [Heap.kill_length], fun j hj hs => ?_⟩, by simp [Heap.kill_length]⟩
    · simp [appendH, show ¬ m = 0 by omega, hown, hng, hc]
    · rw [List.getElem?_append_left (by rw [Heap.kill_length]; exact hj)]
      unfold Heap.kill
      rw [hb]
      exact List.getElem?_set_ne (fun e => hs e.symm)

theorem OL.push {e : Nat} {H : Heap} {id : Nat} {cs : List Value} {n : Nat} (h : OL e H id cs n) (he : 0 < e) {xs : List Value} (hx : xs.length = e) :
    cellsAt (H ++ [⟨xs, true, true⟩]) H.length 0 e = some xs /\ ∃ H', appendH (H ++ [⟨xs, true, true⟩]) e (lv e id 0 n) 1 xs = some (lv e (H.length + 1) 0 (n + 1), H') /\ OL e H' (H.length + 1) (cs ++ xs) (n + 1) /\ Same (fun j => j = id) H H' /\ H'.length = H.length + 2 := by
  have hid := h.lt
  have hk : OL e (H ++ [⟨xs, true, true⟩]) id cs n := h.keep (S := fun _ => False) (Same.of_prefix (List.prefix_append _ _)) (fun hh => hh)
  obtain ⟨H', h1, h2, h3, h4⟩ := hk.append he (m := 1) (by omega) (news := xs) (by simpa using hx)
  refine ⟨?_, H', by simpa using h1, by simpa using h2, ?_, by simpa using h4⟩
  · rw [cellsAt_of (b := ⟨xs, true, true⟩) (by simp) rfl (by simp [hx])]
    simp [<- hx]
  · exact (Same.of_prefix (S := fun j => j = id) (List.prefix_append H [⟨xs, true, true⟩])).trans h3

theorem Up.tuple {H : Heap} {xs ys : Array Value} (h : Ups H xs.toList ys.toList) : Up H (.tuple xs) (.tuple ys) := by
  intro B w0 ρ w cv hR hv
  obtain ⟨zs, rfl, hz⟩ := hv.tuple_inv
  exact VR.tuple_of (h.vrs hR hz)

theorem ACalls.res {P : Program} {f : FuncId} {args : List Value} {H : Heap} {Post : Value -> Heap -> Prop} (h : ACalls P f args H fun v H' => ∃ v', Up H' v v' /\ Post v' H') : ACalls P f args H Post :=
  ⟨h.1, fun B w0 ρ w cargs hR hv => (h.2 B w0 ρ w cargs hR hv).mono fun e w' hp => by
    obtain ⟨ρ', H', v, cv, h1, h2, h3, h4, v', h5, h6⟩ := hp
    exact ⟨ρ', H', v', cv, h1, h2, h3, h5 _ _ _ _ _ h3 h4, h6⟩⟩

def upFrom (k : Int) (n : Nat) : List Int := (List.range n).map fun j : Nat => k + (j : Int)

def off (xss : List (List Int)) (s : Nat) : Nat := (xss.take s).flatten.length

def marked : Int -> List (List Int) -> List (List Int)
  | _, [] => []
  | k, xs :: xss => upFrom k xs.length :: marked (k + (xs.length : Int)) xss

end Go.Ab
end

section
namespace Go.Ab

/-! Memory at the heap's end, for simp. -/

def cellsB (b : Option Blk) (o n : Nat) : Option (List Value) :=
  match b with
  | some b => if b.live = true /\ o + n <= b.cells.length then some ((b.cells.drop o).take n) else none
  | none => none
theorem cellsAt_end0 (H L : Heap) (o n : Nat) : cellsAt (H ++ L) H.length o n = cellsB L[0]? o n := by
  have : (H ++ L)[H.length]? = L[0]? := by rw [List.getElem?_append_right (Nat.le_refl _)]; simp
  unfold cellsAt cellsB; rw [this]; rfl
theorem cellsAt_endk (H L : Heap) (k o n : Nat) : cellsAt (H ++ L) (H.length + k) o n = cellsB L[k]? o n := by
  have : (H ++ L)[H.length + k]? = L[k]? := by rw [List.getElem?_append_right (by omega)]; simp
  unfold cellsAt cellsB; rw [this]; rfl
def storeB (H L : Heap) (k o : Nat) (vs : List Value) (b : Option Blk) : Option Heap :=
  match b with
  | some b => if b.live = true /\ b.own = true /\ o + vs.length <= b.cells.length /\ vs.all Value.oneCell' = true then some (H ++ L.set k { b with cells := over b.cells o vs }) else none
  | none => none
theorem storeAt_end0 (H L : Heap) (o : Nat) (vs : List Value) : storeAt (H ++ L) H.length o vs = storeB H L 0 o vs L[0]? := by
  have : (H ++ L)[H.length]? = L[0]? := by rw [List.getElem?_append_right (Nat.le_refl _)]; simp
  unfold storeAt storeB; rw [this]
  cases L[0]? with
  | none => rfl
  | some b =>
    simp only
    rw [List.set_append_right _ _ (Nat.le_refl _), Nat.sub_self]
theorem storeAt_endk (H L : Heap) (k o : Nat) (vs : List Value) : storeAt (H ++ L) (H.length + k) o vs = storeB H L k o vs L[k]? := by
  have : (H ++ L)[H.length + k]? = L[k]? := by rw [List.getElem?_append_right (by omega)]; simp
  unfold storeAt storeB; rw [this]
  cases L[k]? with
  | none => rfl
  | some b =>
    simp only
    rw [List.set_append_right _ _ (by omega), Nat.add_sub_cancel_left]

attribute [go_sem] cellsB cellsAt_end0 cellsAt_endk storeB storeAt_end0 storeAt_endk over srcCells

structure Bk where
  a : Int
  b : Int
  c : Int
deriving DecidableEq

def Bk.cells (b : Bk) : List Value := [.int .i64 b.a, .int .i64 b.b, .int .i64 b.c]
def Bk.val (b : Bk) : Value := .agg #[.int .i64 b.a, .int .i64 b.b, .int .i64 b.c]
def tri (bs : List Bk) : List Value := bs.flatMap Bk.cells

theorem tri_cons (b : Bk) (bs : List Bk) : tri (b :: bs) = b.cells ++ tri bs := by simp [tri]
theorem tri_append (bs cs : List Bk) : tri (bs ++ cs) = tri bs ++ tri cs := by simp [tri]
theorem tri_one (b : Bk) : tri [b] = b.cells := by simp [tri]
theorem tri_length (bs : List Bk) : (tri bs).length = bs.length * 3 := by
  induction bs with
  | nil => rfl
  | cons b bs ih => rw [tri_cons, List.length_append, ih]; simp [Bk.cells]; omega
theorem tri_cut {bs : List Bk} : ∀ {s : Nat} {b : Bk}, bs[s]? = some b -> ((tri bs).drop (s * 3)).take 3 = b.cells := by
  induction bs with
  | nil => intro s b h; simp at h
  | cons d bs ih =>
    intro s b h
    cases s with
    | zero => simp at h; subst h; rw [tri_cons]; simp [Bk.cells]
    | succ s =>
      have := ih (s := s) (b := b) (by simpa using h)
      rw [tri_cons, show (s + 1) * 3 = d.cells.length + s * 3 by simp [Bk.cells]; omega, List.drop_append, List.drop_eq_nil_of_le (by omega), List.nil_append, Nat.add_sub_cancel_left]
      exact this

theorem At.bk {H : Heap} {i o : Nat} {bs : List Bk} (h : At H i o (tri bs)) {s : Nat} {b : Bk} (hb : bs[s]? = some b) : cellsAt H i (o + s * 3) 3 = some b.cells := by
  have hlt := (List.getElem?_eq_some_iff.1 hb).1
  rw [h.sub (by omega) (by rw [tri_length]; omega), tri_cut hb]

def BlocksAt (H : Heap) (v : Value) (bs : List Bk) : Prop := ∃ i o, v = lv 3 i o bs.length /\ At H i o (tri bs) /\ bs.length <= 140737488355328

theorem BlocksAt.pre {H H' : Heap} (hp : H <+: H') {v : Value} {bs : List Bk} (h : BlocksAt H v bs) : BlocksAt H' v bs := by
  obtain ⟨i, o, h1, h2, h3⟩ := h
  exact ⟨i, o, h1, h2.pre hp, h3⟩

theorem one_int (k : IntKind) (n : Int) : (Value.int k n).oneCell' = true := rfl
theorem one_bool (b : Bool) : (Value.bool b).oneCell' = true := rfl
theorem one_str (s : ByteArray) : (Value.string s).oneCell' = true := rfl
theorem one_slice (a : Option Addr) (n c : Nat) : (Value.slice a n c).oneCell' = true := rfl
theorem one_ptr (a : Option Addr) : (Value.pointer a).oneCell' = true := rfl
theorem one_func (f : Fn) (az bs : Array Value) : (Value.func f az bs).oneCell' = true := rfl
attribute [go_sem] one_int one_bool one_str one_slice one_ptr one_func
theorem IntsAt.one {H : Heap} {v : Value} {xs : List Int} (h : IntsAt H v xs) : v.oneCell' = true := by obtain ⟨i, o, rfl, _⟩ := h; rfl
theorem BlocksAt.one {H : Heap} {v : Value} {bs : List Bk} (h : BlocksAt H v bs) : v.oneCell' = true := by obtain ⟨i, o, rfl, _⟩ := h; rfl

def sysV (p : Int) (v : Value) : Value := .agg #[.int .i64 p, v]

theorem tri_over : ∀ {xs : List Bk} {s : Nat} {b : Bk}, s < xs.length -> over (tri xs) (s * 3) b.cells = tri (xs.set s b)
  | [], s, b, h => by simp at h
  | d :: xs, 0, b, h => by
    simp only [tri_cons, List.set_cons_zero]
    simp [over, Bk.cells]
  | d :: xs, s + 1, b, h => by
    have ih := tri_over (xs := xs) (s := s) (b := b) (by simpa using h)
    simp only [tri_cons, List.set_cons_succ]
    rw [<- ih]
    have e : (s + 1) * 3 = d.cells.length + s * 3 := by simp [Bk.cells]; omega
    simp only [over, e]
    rw [List.take_append, List.take_of_length_le (by omega), Nat.add_sub_cancel_left, Nat.add_assoc, List.drop_append, List.drop_eq_nil_of_le (by omega), List.nil_append, Nat.add_sub_cancel_left]
    simp

theorem made_same {z : Array Value} {v : Value} (hz : 0 < z.size) (h : ∀ i, i < z.size -> z[i]? = some v) (n : Nat) : (madeCells z n).toList = List.replicate n v := by
  apply List.ext_getElem?
  intro i
  simp only [madeCells, Array.toList_map, List.getElem?_map, Array.toList_range]
  by_cases hi : i < n
  · rw [List.getElem?_range hi, List.getElem?_replicate, if_pos hi]
    have := h (i % z.size) (Nat.mod_lt _ hz)
    simp [Array.getElem!_eq_getD, Array.getD_eq_getD_getElem?, this]
  · rw [List.getElem?_eq_none (by simp; omega), List.getElem?_replicate, if_neg hi]; rfl

def OwnBlocks (H : Heap) (v : Value) (id : Nat) (bs : List Bk) : Prop := v = lv 3 id 0 bs.length /\ (bs = [] \/ H[id]? = some ⟨tri bs, true, true⟩) /\ bs.length <= 140737488355328

theorem OwnBlocks.read {H : Heap} {v : Value} {id : Nat} {bs : List Bk} (h : OwnBlocks H v id bs) : BlocksAt H v bs := by
  obtain ⟨h1, h2, h3⟩ := h
  refine ⟨id, 0, h1, ?_, h3⟩
  rcases h2 with rfl | h2
  · exact .inl rfl
  · exact Holds.at ⟨true, h2⟩

theorem storeBk {H : Heap} {id s : Nat} {xs : List Bk} {b : Bk} (h : H[id]? = some ⟨tri xs, true, true⟩) (hs : s < xs.length) : storeAt H id (s * 3) b.cells = some (H.set id ⟨tri (xs.set s b), true, true⟩) := by
  rw [storeAt_of h rfl rfl (by simp only [tri_length]; simp [Bk.cells]; omega) (by simp [Bk.cells, Value.oneCell']), tri_over hs]

theorem OwnBlocks.keep {H H' : Heap} {v : Value} {id : Nat} {bs : List Bk} (h : OwnBlocks H v id bs) {S : Nat -> Prop} (hs : Same S H H') (hi : ¬ S id) : OwnBlocks H' v id bs := by
  obtain ⟨h1, h2, h3⟩ := h
  exact ⟨h1, h2.imp (fun h => h) fun hb => hs.get hb hi, h3⟩

theorem Same.set {H : Heap} {i : Nat} {b : Blk} : Same (fun j => j = i) H (H.set i b) :=
  ⟨by simp, fun _ _ hs => List.getElem?_set_ne (fun e => hs e.symm)⟩

end Go.Ab
end

section
namespace Go.Proofs.YtfnegaedkomcgaaGreat
open Go.Ab

theorem within_ok {H : Heap} {n lo hi : Int} (Post : Value -> Heap -> Prop) (h : Post (.bool (decide (lo <= n) && decide (n <= hi))) H) :
    ACalls Tryz.prog 111 [.int .i64 n, .int .i64 lo, .int .i64 hi] H Post := by
  refine acalls_vc (rs := [.tmp 6]) Tryz.func111 rfl rfl Tryz.ntmps111 rfl rfl ?_
  simp (maxSteps := 1000000) [go_sem]
  refine condK_intro (fun h1 => ?_) (fun h1 => ?_) <;> simp_all

theorem l01In_ok {H : Heap} {n lo hi : Int} (Post : Value -> Heap -> Prop) (h : Post (.bool (decide (lo <= n) && decide (n <= hi))) H) :
    ACalls Tryz.prog 84 [.int .i64 n, .int .i64 lo, .int .i64 hi] H Post := by
  refine acalls_vc (rs := [.tmp 6]) Tryz.func84 rfl rfl Tryz.ntmps84 rfl rfl ?_
  simp (maxSteps := 1000000) [go_sem]
  refine condK_intro (fun h1 => ?_) (fun h1 => ?_) <;> simp_all

end Go.Proofs.YtfnegaedkomcgaaGreat
end

section
namespace Go.Ab

def good (v : Int) (b : Bk) : Bool := decide (0 <= b.a) && decide (b.a < b.b) && decide (b.b < b.c) && decide (b.c < v)
def before (x y : Bk) : Bool := if x.a ≠ y.a then decide (x.a < y.a) else if x.b ≠ y.b then decide (x.b < y.b) else decide (x.c < y.c)
def eq01 (x y : Int) : Nat := if x = y then 1 else 0
def common (x y : Bk) : Nat := eq01 x.a y.a + eq01 x.a y.b + eq01 x.a y.c + (eq01 x.b y.a + eq01 x.b y.b + eq01 x.b y.c) + (eq01 x.c y.a + eq01 x.c y.b + eq01 x.c y.c)
def Bk.nth (b : Bk) (i : Nat) : Int := if i = 0 then b.a else if i = 1 then b.b else b.c
def cnt (x y : Bk) (i k : Nat) : Nat :=
  (if 0 < i then eq01 x.a y.a + eq01 x.a y.b + eq01 x.a y.c else 0) + (if 1 < i then eq01 x.b y.a + eq01 x.b y.b + eq01 x.b y.c else 0) + (if 2 < i then eq01 x.c y.a + eq01 x.c y.b + eq01 x.c y.c else 0) +
  ((if 0 < k then eq01 (x.nth i) y.a else 0) + (if 1 < k then eq01 (x.nth i) y.b else 0) + (if 2 < k then eq01 (x.nth i) y.c else 0))

theorem eq01_le (x y : Int) : eq01 x y <= 1 := by unfold eq01; split <;> omega
theorem ite_le (p : Prop) [Decidable p] (a : Nat) : (if p then a else 0) <= a := by split <;> omega
theorem cnt_le (x y : Bk) (i k : Nat) : cnt x y i k <= 12 := by
  have a1 := eq01_le x.a y.a; have a2 := eq01_le x.a y.b; have a3 := eq01_le x.a y.c
  have b1 := eq01_le x.b y.a; have b2 := eq01_le x.b y.b; have b3 := eq01_le x.b y.c
  have c1 := eq01_le x.c y.a; have c2 := eq01_le x.c y.b; have c3 := eq01_le x.c y.c
  have d1 := eq01_le (x.nth i) y.a; have d2 := eq01_le (x.nth i) y.b; have d3 := eq01_le (x.nth i) y.c
  have e1 := ite_le (0 < i) (eq01 x.a y.a + eq01 x.a y.b + eq01 x.a y.c)
  have e2 := ite_le (1 < i) (eq01 x.b y.a + eq01 x.b y.b + eq01 x.b y.c)
  have e3 := ite_le (2 < i) (eq01 x.c y.a + eq01 x.c y.b + eq01 x.c y.c)
  have e4 := ite_le (0 < k) (eq01 (x.nth i) y.a)
  have e5 := ite_le (1 < k) (eq01 (x.nth i) y.b)
  have e6 := ite_le (2 < k) (eq01 (x.nth i) y.c)
  unfold cnt
  omega
theorem cnt_succ (x y : Bk) (i : Nat) {k : Nat} (h : k < 3) : cnt x y i (k + 1) = cnt x y i k + eq01 (x.nth i) (y.nth k) := by
  have : k = 0 \/ k = 1 \/ k = 2 := by omega
  rcases this with rfl | rfl | rfl <;> simp [cnt, Bk.nth] <;> omega
theorem cnt_end (x y : Bk) {i : Nat} (h : i < 3) : cnt x y i 3 = cnt x y (i + 1) 0 := by
  have : i = 0 \/ i = 1 \/ i = 2 := by omega
  rcases this with rfl | rfl | rfl <;> simp [cnt, Bk.nth] <;> omega
theorem cnt_all (x y : Bk) : cnt x y 3 0 = common x y := by simp [cnt, common]

def Fits (bs : List Bk) : Prop := ∀ (i k : Nat) (x y : Bk), k < i -> bs[i]? = some x -> bs[k]? = some y -> common x y <= 1
def Sorted (v : Int) (bs : List Bk) : Prop := ∀ (i : Nat) (x : Bk), bs[i]? = some x -> good v x = true /\ ∀ y, 0 < i -> bs[i - 1]? = some y -> before y x = true
def IsSys (p : Int) (bs : List Bk) : Prop := (3 <= p /\ p <= 15) /\ bs.length <= 35 /\ Sorted p bs /\ Fits bs

def Rises (n : Int) (xs : List Int) : Prop := ∀ (a : Nat) (x : Int), xs[a]? = some x -> (0 <= x /\ x < n) /\ ∀ y, 0 < a -> xs[a - 1]? = some y -> y < x

theorem rises_block (v : Int) (b : Bk) : Rises v [b.a, b.b, b.c] ↔ good v b = true := by
  simp only [good, Bool.and_eq_true, decide_eq_true_eq]
  constructor
  · intro h
    have h0 := h 0 b.a rfl
    have h1 := h 1 b.b rfl
    have h2 := h 2 b.c rfl
    have := h1.2 b.a (by omega) rfl
    have := h2.2 b.b (by omega) rfl
    omega
  · intro h a x hx
    match a, hx with
    | 0, hx => simp at hx; subst hx; exact ⟨by omega, by omega⟩
    | 1, hx => simp at hx; subst hx; exact ⟨by omega, fun y _ hy => by simp at hy; omega⟩
    | 2, hx => simp at hx; subst hx; exact ⟨by omega, fun y _ hy => by simp at hy; omega⟩
    | a + 3, hx => simp at hx

def lexC : List Int -> List Int -> Int
  | [], [] => 0
  | [], _ :: _ => -1
  | _ :: _, [] => 1
  | x :: xs, y :: ys => if x < y then -1 else if y < x then 1 else lexC xs ys

theorem lexC_block (x y : Bk) : (0 <= lexC [x.a, x.b, x.c] [y.a, y.b, y.c]) ↔ before x y = false := by
  simp only [lexC, before]
  repeat' split
  all_goals simp_all
  all_goals omega

end Go.Ab
end

section
namespace Go.Proofs.YtfnegaedkomcgaaGreat
open Go.Ab

theorem l01Good_ok {H : Heap} {v : Int} {b : Bk} (Post : Value -> Heap -> Prop) (h : ∀ H', H <+: H' -> Post (.bool (good v b)) H') :
    ACalls Tryz.prog 73 [.int .i64 v, b.val] H Post := by
  refine acalls_vc (rs := [.tmp 4]) Tryz.func73 rfl rfl Tryz.ntmps73 rfl rfl ?_
  obtain ⟨a, b, c⟩ := b
  have h := h _ (List.prefix_append H [⟨[.int .i64 a, .int .i64 b, .int .i64 c], true, true⟩])
  simp only [good] at h
  by_cases h1 : 0 <= a
  · by_cases h2 : a < b
    · by_cases h3 : b < c
      · simp (maxSteps := 1000000) [go_sem, Bk.val, Value.oneCell', h1, h2, h3] at h ⊢
        exact h
      · simp (maxSteps := 1000000) [go_sem, Bk.val, Value.oneCell', h1, h2, h3] at h ⊢
        exact h
    · simp (maxSteps := 1000000) [go_sem, Bk.val, Value.oneCell', h1, h2] at h ⊢
      exact h
  · simp (maxSteps := 1000000) [go_sem, Bk.val, Value.oneCell', h1] at h ⊢
    exact h

theorem l01Before_ok {H : Heap} {b d : Bk} (Post : Value -> Heap -> Prop) (h : ∀ H', H <+: H' -> Post (.bool (before b d)) H') :
    ACalls Tryz.prog 105 [b.val, d.val] H Post := by
  refine acalls_vc (rs := [.tmp 4]) Tryz.func105 rfl rfl Tryz.ntmps105 rfl rfl ?_
  obtain ⟨b1, b2, b3⟩ := b
  obtain ⟨d1, d2, d3⟩ := d
  simp (maxSteps := 1000000) [go_sem, Bk.val, Value.oneCell']
  have h := h _ (List.prefix_append H [⟨[.int .i64 b1, .int .i64 b2, .int .i64 b3], true, true⟩, ⟨[.int .i64 d1, .int .i64 d2, .int .i64 d3], true, true⟩])
  simp only [before] at h
  refine AWp.loopVc (fun s : Nat => [(2, .pointer (some ⟨H.length, 0, none⟩)), (3, .pointer (some ⟨H.length + 1, 0, none⟩)), (5, .int .i64 s)])
    (fun s H' => s <= 3 /\ H' = H ++ [⟨[.int .i64 b1, .int .i64 b2, .int .i64 b3], true, true⟩, ⟨[.int .i64 d1, .int .i64 d2, .int .i64 d3], true, true⟩] /\ [b1, b2, b3].take s = [d1, d2, d3].take s) (fun s => 3 - s) 0 ?_ ?_ ?_
  · simp [upF, Fr.get, Up.refl]
  · simp
  · rintro K s H' ⟨hs, rfl, ht⟩ hK
    have cn : List (Nat × Bool) := []
    have : s = 0 \/ s = 1 \/ s = 2 \/ s = 3 := by omega
    rcases this with rfl | rfl | rfl | rfl
    · simp (maxSteps := 1000000) [go_sem]
      refine AWp.draw mixed [(0, false), (1, false), (2, false), (3, false), (4, false), (5, false), (6, false)] (by kernel_rfl) ?_
      simp (maxSteps := 1000000) [go_sem, i64w (n := 1) (by omega) (by omega)]
      refine condK_intro (fun hne => ?_) (fun heq => ?_)
      · refine AWp.draw mixed [(0, false), (1, false), (2, false), (3, false), (4, false), (5, false), (6, false), (7, false)] (by kernel_rfl) ?_
        simp (maxSteps := 1000000) [go_sem]
        simp at hne; simpa [hne] using h
      · exact hK 1 _ _ (by omega) (by simp [upF, Fr.get, Up.refl]) ⟨by omega, rfl, by simpa using heq⟩
    · simp (maxSteps := 1000000) [go_sem]
      refine AWp.draw mixed [(0, false), (1, false), (2, false), (3, false), (4, false), (5, false), (6, false)] (by kernel_rfl) ?_
      simp (maxSteps := 1000000) [go_sem, i64w (n := 2) (by omega) (by omega)]
      refine condK_intro (fun hne => ?_) (fun heq => ?_)
      · refine AWp.draw mixed [(0, false), (1, false), (2, false), (3, false), (4, false), (5, false), (6, false), (7, false)] (by kernel_rfl) ?_
        simp (maxSteps := 1000000) [go_sem]
        simp at hne ht; simpa [hne, ht] using h
      · exact hK 2 _ _ (by omega) (by simp [upF, Fr.get, Up.refl]) ⟨by omega, rfl, by simp at ht heq; simp [ht, heq]⟩
    · simp (maxSteps := 1000000) [go_sem]
      refine AWp.draw mixed [(0, false), (1, false), (2, false), (3, false), (4, false), (5, false), (6, false)] (by kernel_rfl) ?_
      simp (maxSteps := 1000000) [go_sem, i64w (n := 3) (by omega) (by omega)]
      refine condK_intro (fun hne => ?_) (fun heq => ?_)
      · refine AWp.draw mixed [(0, false), (1, false), (2, false), (3, false), (4, false), (5, false), (6, false), (7, false)] (by kernel_rfl) ?_
        simp (maxSteps := 1000000) [go_sem]
        simp at hne ht; simpa [hne, ht] using h
      · exact hK 3 _ _ (by omega) (by simp [upF, Fr.get, Up.refl]) ⟨by omega, rfl, by simp at ht heq; simp [ht, heq]⟩
    · simp (maxSteps := 1000000) [go_sem]
      simp at ht
      simpa [ht] using h

theorem l01Common_ok {H : Heap} {b d : Bk} (Post : Value -> Heap -> Prop) (h : ∀ H', H <+: H' -> Post (.int .i64 (common b d)) H') :
    ACalls Tryz.prog 113 [b.val, d.val] H Post := by
  refine acalls_vc (rs := [.tmp 4]) Tryz.func113 rfl rfl Tryz.ntmps113 rfl rfl ?_
  obtain ⟨b1, b2, b3⟩ := b
  obtain ⟨d1, d2, d3⟩ := d
  simp (maxSteps := 1000000) [go_sem, Bk.val, Value.oneCell']
  obtain ⟨H1, hH1⟩ : ∃ H1, H1 = H ++ [⟨[.int .i64 b1, .int .i64 b2, .int .i64 b3], true, true⟩, ⟨[.int .i64 d1, .int .i64 d2, .int .i64 d3], true, true⟩] := ⟨_, rfl⟩
  have h := h H1 (by rw [hH1]; exact List.prefix_append _ _)
  have l1 : ∀ i : Nat, i < 3 -> cellsAt H1 H.length i 1 = some [.int .i64 (Bk.nth ⟨b1, b2, b3⟩ i)] := by
    intro i hi
    have : i = 0 \/ i = 1 \/ i = 2 := by omega
    rcases this with rfl | rfl | rfl <;> simp [hH1, go_sem, Bk.nth]
  have l2 : ∀ i : Nat, i < 3 -> cellsAt H1 (H.length + 1) i 1 = some [.int .i64 (Bk.nth ⟨d1, d2, d3⟩ i)] := by
    intro i hi
    have : i = 0 \/ i = 1 \/ i = 2 := by omega
    rcases this with rfl | rfl | rfl <;> simp [hH1, go_sem, Bk.nth]
  rw [<- hH1]
  refine AWp.loopVc (fun s : Nat => [(2, .pointer (some ⟨H.length, 0, none⟩)), (3, .pointer (some ⟨H.length + 1, 0, none⟩)), (5, .int .i64 (cnt ⟨b1, b2, b3⟩ ⟨d1, d2, d3⟩ s 0)), (6, .int .i64 s)])
    (fun s H' => s <= 3 /\ H' = H1) (fun s => 3 - s) 0 ?_ ?_ ?_
  · simp [upF, Fr.get, Up.refl, cnt]
  · simp
  · rintro K s H' ⟨hs, rfl⟩ hK
    by_cases hlt : s < 3
    · have hlt' : (s : Int) < 3 := by omega
      simp (maxSteps := 1000000) [go_sem, hlt, hlt']
      refine AWp.loopVc (fun t : Nat => [(2, .pointer (some ⟨H.length, 0, none⟩)), (3, .pointer (some ⟨H.length + 1, 0, none⟩)), (5, .int .i64 (cnt ⟨b1, b2, b3⟩ ⟨d1, d2, d3⟩ s t)), (6, .int .i64 s), (7, .int .i64 t)])
        (fun t H2 => t <= 3 /\ H2 = H') (fun t => 3 - t) 0 ?_ ?_ ?_
      · simp [upF, Fr.get, Up.refl]
      · simp
      · rintro K2 t H2 ⟨ht, rfl⟩ hK2
        by_cases htl : t < 3
        · have c1 := l1 s hlt
          have c2 := l2 t htl
          have hw : IntKind.i64.wrap ((t : Int) + 1) = (t : Int) + 1 := i64w (by omega) (by omega)
          have hle := cnt_le ⟨b1, b2, b3⟩ ⟨d1, d2, d3⟩ s t
          have hw2 : IntKind.i64.wrap ((cnt ⟨b1, b2, b3⟩ ⟨d1, d2, d3⟩ s t : Int) + 1) = (cnt ⟨b1, b2, b3⟩ ⟨d1, d2, d3⟩ s t : Int) + 1 := i64w (by omega) (by omega)
          have hst := cnt_succ ⟨b1, b2, b3⟩ ⟨d1, d2, d3⟩ s htl
          have htl' : (t : Int) < 3 := by omega
          simp (maxSteps := 1000000) [go_sem, htl, htl']
          refine AWp.draw mixed [(0, false), (1, false), (2, false), (3, false), (4, false), (5, false), (6, false)] (by kernel_rfl) ?_
          simp (maxSteps := 1000000) [go_sem, hlt, htl, hlt', htl', c1, c2, hw, hw2]
          refine condK_intro (fun heq => ?_) (fun hne => ?_)
          · refine hK2 (t + 1) _ _ (by omega) ?_ ⟨by omega, rfl⟩
            have : eq01 (Bk.nth ⟨b1, b2, b3⟩ s) (Bk.nth ⟨d1, d2, d3⟩ t) = 1 := by rw [eq01, if_pos (by simpa using heq)]
            simp [upF, Fr.get, Up.refl, hst, this]
          · refine hK2 (t + 1) _ _ (by omega) ?_ ⟨by omega, rfl⟩
            have : eq01 (Bk.nth ⟨b1, b2, b3⟩ s) (Bk.nth ⟨d1, d2, d3⟩ t) = 0 := by rw [eq01, if_neg (by simpa using hne)]
            simp [upF, Fr.get, Up.refl, hst, this]
        · have : t = 3 := by omega
          subst this
          have hw : IntKind.i64.wrap ((s : Int) + 1) = (s : Int) + 1 := i64w (by omega) (by omega)
          simp (maxSteps := 1000000) [go_sem, hw]
          refine hK (s + 1) _ _ (by omega) ?_ ⟨by omega, rfl⟩
          have := cnt_end ⟨b1, b2, b3⟩ ⟨d1, d2, d3⟩ hlt
          simp [upF, Fr.get, Up.refl, this]
    · have : s = 3 := by omega
      subst this
      simp (maxSteps := 1000000) [go_sem]
      rw [cnt_all]; exact h

theorem l01Fits_ok {H : Heap} {u : Value} {bs : List Bk} (hu : BlocksAt H u bs) (Post : Value -> Heap -> Prop) (h : ∀ H' b, H <+: H' -> (b = true ↔ Fits bs) -> Post (.bool b) H') :
    ACalls Tryz.prog 106 [u] H Post := by
  obtain ⟨i, o, rfl, h1, h2⟩ := hu
  refine acalls_vc (rs := [.tmp 2]) Tryz.func106 rfl rfl Tryz.ntmps106 rfl rfl ?_
  simp (maxSteps := 1000000) [go_sem]
  refine AWp.loopVc (fun s : Nat => [(0, lv 3 i o bs.length), (3, .int .i64 s)])
    (fun s H' => s <= bs.length /\ H <+: H' /\ ∀ (a k : Nat) (x y : Bk), a < s -> k < a -> bs[a]? = some x -> bs[k]? = some y -> common x y <= 1) (fun s => bs.length - s) 0 ?_ ?_ ?_
  · simp [upF, Fr.get, Up.refl]
  · exact ⟨by omega, List.prefix_refl _, by intro a k x y ha; omega⟩
  · rintro K s H' ⟨hs, hp, hf⟩ hK
    by_cases hlt : s < bs.length
    · have hbs : bs[s]? = some bs[s] := List.getElem?_eq_getElem hlt
      simp (maxSteps := 1000000) [go_sem, hlt]
      refine AWp.loopVc (fun t : Nat => [(0, lv 3 i o bs.length), (3, .int .i64 s), (4, .int .i64 t)])
        (fun t H2 => t <= s /\ H <+: H2 /\ ∀ (k : Nat) (y : Bk), k < t -> bs[k]? = some y -> common bs[s] y <= 1) (fun t => s - t) 0 ?_ ?_ ?_
      · simp [upF, Fr.get, Up.refl]
      · exact ⟨by omega, hp, by intro k y hk; omega⟩
      · rintro K2 t H2 ⟨ht, hp2, hft⟩ hK2
        by_cases htl : t < s
        · have hbt : bs[t]? = some (bs[t]'(by omega)) := List.getElem?_eq_getElem _
          have c1 := (h1.pre hp2).bk hbs
          have c2 := (h1.pre hp2).bk hbt
          simp only [Bk.cells] at c1 c2
          have hw : IntKind.i64.wrap ((t : Int) + 1) = (t : Int) + 1 := i64w (by omega) (by omega)
          have hlt2 : t < bs.length := by omega
          simp (maxSteps := 1000000) [go_sem, htl]
          refine AWp.draw mixed [(0, false), (1, false), (2, false), (3, false), (4, false), (5, false), (6, false), (7, false), (8, false), (9, false)] (by kernel_rfl) ?_
          simp (maxSteps := 1000000) [go_sem, hlt, hlt2, c1, c2]
          refine l01Common_ok (b := bs[s]) (d := bs[t]'(by omega)) _ ?_
          intro H3 hp3
          simp (maxSteps := 1000000) [go_sem, hw]
          refine condK_intro (fun hgt => ?_) (fun hle => ?_)
          · refine h H3 false (hp2.trans hp3) ⟨by simp, fun hF => ?_⟩
            have := hF s t _ _ htl hbs hbt
            simp at hgt; omega
          · refine hK2 (t + 1) _ _ (by omega) (by simp [upF, Fr.get, Up.refl]) ⟨by omega, hp2.trans hp3, fun k y hk hy => ?_⟩
            by_cases hkt : k = t
            · subst hkt
              rw [hbt] at hy; cases hy
              simp at hle; omega
            · exact hft k y (by omega) hy
        · have : t = s := by omega
          subst this
          have hw : IntKind.i64.wrap ((t : Int) + 1) = (t : Int) + 1 := i64w (by omega) (by omega)
          simp (maxSteps := 1000000) [go_sem, hw]
          refine hK (t + 1) _ _ (by omega) (by simp [upF, Fr.get, Up.refl]) ⟨by omega, hp2, fun a k x y ha hk hx hy => ?_⟩
          by_cases hat : a = t
          · subst hat
            rw [hbs] at hx; cases hx
            exact hft k y hk hy
          · exact hf a k x y (by omega) hk hx hy
    · have : s = bs.length := by omega
      subst this
      simp (maxSteps := 1000000) [go_sem]
      exact h H' true hp ⟨fun _ a k x y hk hx hy => hf a k x y (List.getElem?_eq_some_iff.1 hx).1 hk hx hy, fun _ => rfl⟩

theorem l01Is_ok {H : Heap} {u : Value} {p : Int} {bs : List Bk} (hu : BlocksAt H u bs) (hlen : bs.length <= 1048576) (Post : Value -> Heap -> Prop) (h : ∀ H' b, H <+: H' -> (b = true ↔ IsSys p bs) -> Post (.bool b) H') :
    ACalls Tryz.prog 53 [sysV p u] H Post := by
  obtain ⟨i, o, rfl, h1, h2⟩ := hu
  refine acalls_vc (rs := [.tmp 2]) Tryz.func53 rfl rfl Tryz.ntmps53 rfl rfl ?_
  simp (maxSteps := 1000000) [go_sem, sysV, Value.oneCell']
  refine l01In_ok _ ?_
  obtain ⟨H1, hH1⟩ : ∃ H1, H1 = H ++ [⟨[.int .i64 p, lv 3 i o bs.length], true, true⟩] := ⟨_, rfl⟩
  have hbox : H1[H.length]? = some ⟨[.int .i64 p, lv 3 i o bs.length], true, true⟩ := by rw [hH1]; simp
  have hp1 : H <+: H1 := by rw [hH1]; exact List.prefix_append _ _
  by_cases hin : 3 <= p /\ p <= 15
  · by_cases hl35 : bs.length <= 35
    · have hgt : ¬ ((35 : Int) < bs.length) := by omega
      simp (maxSteps := 1000000) [go_sem, hin.1, hin.2, hgt]
      rw [<- hH1]
      refine AWp.loopVc (fun s : Nat => [(1, .pointer (some ⟨H.length, 0, none⟩)), (3, .int .i64 s)])
        (fun s H' => s <= bs.length /\ H1 <+: H' /\ ∀ (a : Nat) (x : Bk), a < s -> bs[a]? = some x -> good p x = true /\ ∀ y, 0 < a -> bs[a - 1]? = some y -> before y x = true) (fun s => bs.length - s) 0 ?_ ?_ ?_
      · simp [upF, Fr.get, Up.refl]
      · exact ⟨by omega, List.prefix_refl _, by intro a x ha; omega⟩
      · rintro K s H' ⟨hs, hp, hf⟩ hK
        have box : ∀ {H2 : Heap}, H1 <+: H2 -> cellsAt H2 H.length 0 1 = some [.int .i64 p] /\ cellsAt H2 H.length 1 1 = some [lv 3 i o bs.length] := by
          intro H2 hp2
          have := pget hp2 hbox
          exact ⟨Holds.cell ⟨true, this⟩ rfl, Holds.cell ⟨true, this⟩ rfl⟩
        obtain ⟨b0, b1⟩ := box hp
        by_cases hlt : s < bs.length
        · have hbs : bs[s]? = some bs[s] := List.getElem?_eq_getElem hlt
          have c1 := (h1.pre (hp1.trans hp)).bk hbs
          simp only [Bk.cells] at c1
          have hw : IntKind.i64.wrap ((s : Int) + 1) = (s : Int) + 1 := i64w (by omega) (by omega)
          simp (maxSteps := 1000000) [go_sem, hlt, b0, b1]
          refine AWp.draw mixed [(0, false), (1, false), (2, false), (3, false), (4, false), (5, false), (6, false), (7, false), (8, false), (9, false), (10, false), (11, false), (12, false), (13, false), (14, false), (15, false), (16, false), (17, false), (18, false), (19, false), (20, false), (21, false), (22, false), (23, false), (24, false), (25, false), (26, false), (27, false)] (by kernel_rfl) ?_
          simp (maxSteps := 1000000) [go_sem, hlt, b0, b1, c1]
          refine l01Good_ok (b := bs[s]) _ ?_
          intro H2 hp2
          by_cases hg : good p bs[s] = true
          · by_cases h0 : s = 0
            · subst h0
              simp (maxSteps := 1000000) [go_sem, hg, hw]
              refine hK 1 _ _ (by omega) (by simp [upF, Fr.get, Up.refl, i64w (n := 1)]) ⟨by omega, hp.trans hp2, fun a x ha hx => ?_⟩
              obtain rfl : a = 0 := by omega
              rw [hbs] at hx; cases hx
              exact ⟨hg, by omega⟩
            · have hs0 : 0 < s := by omega
              obtain ⟨r, rfl⟩ : ∃ r, s = r + 1 := ⟨s - 1, by omega⟩
              have hbr : bs[r]? = some (bs[r]'(by omega)) := List.getElem?_eq_getElem _
              obtain ⟨d0, d1⟩ := box (hp.trans hp2)
              have e1 := (h1.pre (hp1.trans (hp.trans hp2))).bk hbs
              have e2 := (h1.pre (hp1.trans (hp.trans hp2))).bk hbr
              simp only [Bk.cells] at e1 e2
              have hr : r < bs.length := by omega
              have hw3 : IntKind.i64.wrap (r : Int) = (r : Int) := i64w (by omega) (by omega)
              have hw4 : IntKind.i64.wrap ((r : Int) + 1 + 1) = (r : Int) + 1 + 1 := i64w (by omega) (by omega)
              simp (maxSteps := 1000000) [go_sem, hg, hw, d0, d1, e1, e2, hlt, hr, hw3]
              refine andK_intro (by omega) (l01Before_ok (b := bs[r]'(by omega)) (d := bs[r + 1]) _ ?_)
              intro H3 hp3
              by_cases hbf : before (bs[r]'(by omega)) bs[r + 1] = true
              · simp (maxSteps := 1000000) [go_sem, hbf, hw4]
                refine hK (r + 1 + 1) _ _ (by omega) (by simp [upF, Fr.get, Up.refl]) ⟨by omega, hp.trans (hp2.trans hp3), fun a x ha hx => ?_⟩
                by_cases har : a = r + 1
                · subst har
                  rw [hbs] at hx; cases hx
                  refine ⟨hg, fun y _ hy => ?_⟩
                  simp only [Nat.add_sub_cancel] at hy
                  rw [hbr] at hy; cases hy
                  exact hbf
                · exact hf a x (by omega) hx
              · simp (maxSteps := 1000000) [go_sem, hbf]
                refine h H3 false (hp1.trans (hp.trans (hp2.trans hp3))) ⟨by simp, fun hS => ?_⟩
                exact absurd ((hS.2.2.1 (r + 1) _ hbs).2 _ (by omega) (by simpa using hbr)) hbf
          · simp (maxSteps := 1000000) [go_sem, hg]
            refine h H2 false (hp1.trans (hp.trans hp2)) ⟨by simp, fun hS => ?_⟩
            exact absurd (hS.2.2.1 s _ hbs).1 hg
        · have : s = bs.length := by omega
          subst this
          simp (maxSteps := 1000000) [go_sem, b0, b1]
          refine l01Fits_ok ⟨i, o, rfl, h1.pre (hp1.trans hp), h2⟩ _ ?_
          intro H2 b hp2 hb
          simp (maxSteps := 1000000) [go_sem]
          refine h H2 b (hp1.trans (hp.trans hp2)) (hb.trans ⟨fun hF => ⟨hin, hl35, fun a x hx => hf a x (List.getElem?_eq_some_iff.1 hx).1 hx, hF⟩, fun hS => hS.2.2.2⟩)
    · have hgt : (35 : Int) < bs.length := by omega
      simp (maxSteps := 1000000) [go_sem, hin.1, hin.2, hgt]
      refine h _ false (List.prefix_append _ _) ⟨by simp, fun hS => absurd hS.2.1 hl35⟩
  · have hn : (decide (3 <= p) && decide (p <= 15)) = false := by simp; omega
    rw [hn]
    simp (maxSteps := 1000000) [go_sem]
    exact h _ false (List.prefix_append _ _) ⟨by simp, fun hS => absurd hS.1 hin⟩

end Go.Proofs.YtfnegaedkomcgaaGreat
end

section
namespace Go.Proofs.YtfnegaedkomcgaaGreat
open Go.Ab

theorem rises_ok {H : Heap} {u : Value} {xs : List Int} {n : Int} (hu : IntsAt H u xs) (hn : -9223372036854775807 <= n) (hn' : n <= 9223372036854775807) (Post : Value -> Heap -> Prop) (h : ∀ b : Bool, (b = true ↔ Rises n xs) -> Post (.bool b) H) :
    ACalls Tryz.prog 64 [u, .int .i64 n] H Post := by
  obtain ⟨i, o, rfl, h1, h2⟩ := hu
  refine acalls_vc (rs := [.tmp 4]) Tryz.func64 rfl rfl Tryz.ntmps64 rfl rfl ?_
  simp (maxSteps := 1000000) [go_sem]
  refine AWp.loopVc (fun s : Nat => [(0, lv 1 i o xs.length), (1, .int .i64 n), (7, lv 1 i o xs.length), (8, .int .i64 xs.length), (9, .int .i64 s)])
    (fun s H' => s <= xs.length /\ H' = H /\ ∀ (a : Nat) (x : Int), a < s -> xs[a]? = some x -> (0 <= x /\ x < n) /\ ∀ y, 0 < a -> xs[a - 1]? = some y -> y < x) (fun s => xs.length - s) 0 ?_ ?_ ?_
  · simp [upF, Fr.get, Up.refl]
  · exact ⟨by omega, rfl, by intro a x ha; omega⟩
  · rintro K s H' ⟨hs, rfl, hf⟩ hK
    by_cases hlt : s < xs.length
    · have hx : xs[s]? = some xs[s] := List.getElem?_eq_getElem hlt
      have c1 := h1.cell (k := s) (v := .int .i64 xs[s]) (by simp [ints_get, hlt])
      have hw : IntKind.i64.wrap ((s : Int) + 1) = (s : Int) + 1 := i64w (by omega) (by omega)
      have hwn : IntKind.i64.wrap (n - 1) = n - 1 := i64w (by omega) (by omega)
      simp (maxSteps := 1000000) [go_sem, hlt, c1, hwn]
      refine within_ok _ ?_
      by_cases hin : 0 <= xs[s] /\ xs[s] <= n - 1
      · by_cases h0 : s = 0
        · subst h0
          simp (maxSteps := 1000000) [go_sem, hin.1, hin.2, i64w (n := 1)]
          refine hK 1 _ _ (by omega) (by simp [upF, Fr.get, Up.refl]) ⟨by omega, rfl, fun a x ha hx' => ?_⟩
          obtain rfl : a = 0 := by omega
          rw [hx] at hx'; cases hx'
          exact ⟨by omega, by omega⟩
        · obtain ⟨r, rfl⟩ : ∃ r, s = r + 1 := ⟨s - 1, by omega⟩
          have hxr : xs[r]? = some (xs[r]'(by omega)) := List.getElem?_eq_getElem _
          have c2 := h1.cell (k := r) (v := .int .i64 (xs[r]'(by omega))) (by simp [ints_get, hxr])
          have hr : r < xs.length := by omega
          have hw3 : IntKind.i64.wrap (r : Int) = (r : Int) := i64w (by omega) (by omega)
          have hw4 : IntKind.i64.wrap ((r : Int) + 1 + 1) = (r : Int) + 1 + 1 := i64w (by omega) (by omega)
          simp (maxSteps := 1000000) [go_sem, hin.1, hin.2, hw3, hr, c2, hw4]
          refine condK_intro (fun hge => ?_) (fun hlt' => ?_)
          · refine h false ⟨by simp, fun hR => ?_⟩
            have := (hR (r + 1) _ hx).2 _ (by omega) hxr
            simp at hge; omega
          · refine hK (r + 1 + 1) _ _ (by omega) (by simp [upF, Fr.get, Up.refl]) ⟨by omega, rfl, fun a x ha hx' => ?_⟩
            by_cases har : a = r + 1
            · subst har
              rw [hx] at hx'; cases hx'
              refine ⟨by omega, fun y _ hy => ?_⟩
              simp only [Nat.add_sub_cancel] at hy
              rw [hxr] at hy; cases hy
              simpa using hlt'
            · exact hf a x (by omega) hx'
      · have hnin : (decide (0 <= xs[s]) && decide (xs[s] <= n - 1)) = false := by simp; omega
        rw [hnin]
        simp (maxSteps := 1000000) [go_sem]
        refine h false ⟨by simp, fun hR => ?_⟩
        have := (hR s _ hx).1
        omega
    · have : s = xs.length := by omega
      subst this
      simp (maxSteps := 1000000) [go_sem]
      exact h true ⟨fun _ a x hx => hf a x (List.getElem?_eq_some_iff.1 hx).1 hx, fun _ => rfl⟩

theorem isBlock_ok {H : Heap} {b : Bk} {v : Int} (hn : -9223372036854775807 <= v) (hn' : v <= 9223372036854775807) (Post : Value -> Heap -> Prop) (h : ∀ H', H <+: H' -> Post (.bool (good v b)) H') :
    ACalls Tryz.prog 71 [b.val, .int .i64 v] H Post := by
  refine acalls_vc (rs := [.tmp 4]) Tryz.func71 rfl rfl Tryz.ntmps71 rfl rfl ?_
  simp (maxSteps := 1000000) [go_sem, Bk.val, Value.oneCell']
  have hat : At (H ++ [⟨[.int .i64 b.a, .int .i64 b.b, .int .i64 b.c], true, true⟩]) H.length 0 (ints [b.a, b.b, b.c]) := Holds.at ⟨true, by simp [ints]⟩
  refine ACalls.up (args' := [lv 1 H.length 0 3, .int .i64 v]) ⟨Up.ex (by omega) (.inr (by simp [go_sem])), Up.refl _ _, trivial⟩ ?_
  refine rises_ok (xs := [b.a, b.b, b.c]) ⟨H.length, 0, rfl, hat, by simp⟩ hn hn' _ ?_
  intro r hr
  simp (maxSteps := 1000000) [go_sem]
  have : r = good v b := by
    rw [rises_block] at hr
    cases r <;> cases hg : good v b <;> simp_all
  rw [this]
  exact h _ (List.prefix_append _ _)

theorem isNaN_ok {H : Heap} {x : Int} (Post : Value -> Heap -> Prop) (h : Post (.bool false) H) :
    ACalls Tryz.prog 171 [.int .i64 x] H Post := by
  refine acalls_vc (rs := [.tmp 2]) Tryz.func171 rfl rfl Tryz.ntmps171 rfl rfl ?_
  simp (maxSteps := 1000000) [go_sem]
  exact h

theorem cmpCompare_ok {H : Heap} {x y : Int} (Post : Value -> Heap -> Prop) (h : Post (.int .i64 (if x < y then -1 else if y < x then 1 else 0)) H) :
    ACalls Tryz.prog 164 [.int .i64 x, .int .i64 y] H Post := by
  refine acalls_vc (rs := [.tmp 4]) Tryz.func164 rfl rfl Tryz.ntmps164 rfl rfl ?_
  simp (maxSteps := 1000000) [go_sem]
  refine isNaN_ok _ ?_
  simp (maxSteps := 1000000) [go_sem]
  refine isNaN_ok _ ?_
  simp (maxSteps := 1000000) [go_sem]
  refine condK_intro (fun h1 => ?_) (fun h1 => ?_)
  · rw [if_pos (by simpa using h1)] at h; exact h
  · rw [if_neg (by simpa using h1)] at h
    refine condK_intro (fun h2 => ?_) (fun h2 => ?_)
    · rw [if_pos (by simpa using h2)] at h; exact h
    · rw [if_neg (by simpa using h2)] at h; exact h

theorem slicesCompare_ok {H : Heap} {u v : Value} {xs ys : List Int} (hu : IntsAt H u xs) (hv : IntsAt H v ys) (Post : Value -> Heap -> Prop) (h : Post (.int .i64 (lexC xs ys)) H) :
    ACalls Tryz.prog 147 [u, v] H Post := by
  obtain ⟨i, o, rfl, h1, h2⟩ := hu
  obtain ⟨j, q, rfl, h3, h4⟩ := hv
  refine acalls_vc (rs := [.tmp 4]) Tryz.func147 rfl rfl Tryz.ntmps147 rfl rfl ?_
  simp (maxSteps := 1000000) [go_sem]
  refine AWp.loopVc (fun s : Nat => [(0, lv 1 i o xs.length), (1, lv 1 j q ys.length), (9, lv 1 i o xs.length), (10, .int .i64 xs.length), (11, .int .i64 s)])
    (fun s H' => s <= xs.length /\ s <= ys.length /\ H' = H /\ lexC xs ys = lexC (xs.drop s) (ys.drop s)) (fun s => xs.length - s) 0 ?_ ?_ ?_
  · simp [upF, Fr.get, Up.refl]
  · exact ⟨by omega, by omega, rfl, by simp⟩
  · rintro K s H' ⟨hs, hs', rfl, hf⟩ hK
    by_cases hlt : s < xs.length
    · have hdx : xs.drop s = xs[s] :: xs.drop (s + 1) := List.drop_eq_getElem_cons hlt
      have c1 := h1.cell (k := s) (v := .int .i64 xs[s]) (by simp [ints_get, hlt])
      have hw : IntKind.i64.wrap ((s : Int) + 1) = (s : Int) + 1 := i64w (by omega) (by omega)
      by_cases hly : s < ys.length
      · have hdy : ys.drop s = ys[s] :: ys.drop (s + 1) := List.drop_eq_getElem_cons hly
        have c2 := h3.cell (k := s) (v := .int .i64 ys[s]) (by simp [ints_get, hly])
        have hly' : ¬ ys.length <= s := by omega
        simp (maxSteps := 1000000) [go_sem, hlt, hly, hly', c1, c2]
        refine cmpCompare_ok _ ?_
        rw [hdx, hdy] at hf
        simp only [lexC] at hf
        by_cases hxy : xs[s] < ys[s]
        · rw [if_pos hxy] at hf ⊢
          simp (maxSteps := 1000000) [go_sem]
          rw [hf] at h; exact h
        · rw [if_neg hxy] at hf ⊢
          by_cases hyx : ys[s] < xs[s]
          · rw [if_pos hyx] at hf ⊢
            simp (maxSteps := 1000000) [go_sem]
            rw [hf] at h; exact h
          · rw [if_neg hyx] at hf ⊢
            simp (maxSteps := 1000000) [go_sem, hw]
            exact hK (s + 1) _ _ (by omega) (by simp [upF, Fr.get, Up.refl]) ⟨by omega, by omega, rfl, hf⟩
      · have hly' : ys.length <= s := by omega
        simp (maxSteps := 1000000) [go_sem, hlt, hly', c1]
        rw [hdx, List.drop_eq_nil_of_le hly'] at hf
        simp only [lexC] at hf
        rw [hf] at h; exact h
    · have : s = xs.length := by omega
      subst this
      simp (maxSteps := 1000000) [go_sem]
      rw [List.drop_eq_nil_of_le (Nat.le_refl _)] at hf
      refine condK_intro (fun hl => ?_) (fun hl => ?_)
      · have hl : xs.length < ys.length := by simpa using hl
        rw [List.drop_eq_getElem_cons hl] at hf
        simp only [lexC] at hf
        rw [hf] at h; exact h
      · have hl : ys.length <= xs.length := by simpa using hl
        rw [List.drop_eq_nil_of_le hl] at hf
        simp only [lexC] at hf
        rw [hf] at h; exact h

theorem compare_ok {H : Heap} {b d : Bk} (Post : Value -> Heap -> Prop) (h : ∀ H', H <+: H' -> Post (.int .i64 (lexC [b.a, b.b, b.c] [d.a, d.b, d.c])) H') :
    ACalls Tryz.prog 128 [b.val, d.val] H Post := by
  refine acalls_vc (rs := [.tmp 4]) Tryz.func128 rfl rfl Tryz.ntmps128 rfl rfl ?_
  simp (maxSteps := 1000000) [go_sem, Bk.val, Value.oneCell']
  refine AWp.draw mixed [(0, false), (1, false), (2, false), (3, false)] (by kernel_rfl) ?_
  simp (maxSteps := 1000000) [go_sem]
  have ha : Holds (H ++ [⟨[.int .i64 b.a, .int .i64 b.b, .int .i64 b.c], true, true⟩, ⟨[.int .i64 d.a, .int .i64 d.b, .int .i64 d.c], true, true⟩]) H.length (ints [b.a, b.b, b.c]) := ⟨true, by simp [ints]⟩
  have hd : Holds (H ++ [⟨[.int .i64 b.a, .int .i64 b.b, .int .i64 b.c], true, true⟩, ⟨[.int .i64 d.a, .int .i64 d.b, .int .i64 d.c], true, true⟩]) (H.length + 1) (ints [d.a, d.b, d.c]) := ⟨true, by simp [ints]⟩
  refine ACalls.up (args' := [lv 1 H.length 0 3, lv 1 (H.length + 1) 0 3]) ⟨Up.ex (by omega) (.inr (by simp [go_sem])), Up.ex (by omega) (.inr (by simp [go_sem])), trivial⟩ ?_
  refine slicesCompare_ok (xs := [b.a, b.b, b.c]) (ys := [d.a, d.b, d.c]) ⟨H.length, 0, rfl, ha.at, by simp⟩ ⟨H.length + 1, 0, rfl, hd.at, by simp⟩ _ ?_
  simp (maxSteps := 1000000) [go_sem]
  exact h _ (List.prefix_append _ _)

end Go.Proofs.YtfnegaedkomcgaaGreat
end
