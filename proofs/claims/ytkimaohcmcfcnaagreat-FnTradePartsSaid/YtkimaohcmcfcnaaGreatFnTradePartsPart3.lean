/- Part 3 of what the proof of the law FnTradeParts rests on: contracts of functions of the program, for every argument that each names; no statement of the seat is proved here. -/
import Derived.Test.YtkimaohcmcfcnaaGreatProg
import Derived.KernelRfl
import Derived.Test.YtkimaohcmcfcnaaGreatRows
import Derived.Sort.LotA
import Derived.Sort.LotD3
import Derived.Sort.LotB
import Derived.Sort.LotC
import Derived.Test.YtkimaohcmcfcnaaGreatFnTradePartsPart2

set_option linter.all false
set_option maxRecDepth 20000
set_option maxHeartbeats 8000000
section
namespace Go.Proofs.YtkimaohcmcfcnaaGreat
open Go.Ab

theorem ti2 : ti Tryz.prog 2 = some ⟨.int .i64, 1, 8, (.int .i64 0)⟩ := by kernel_rfl
theorem zok2 : zeroOK Tryz.prog 2 = true := by kernel_rfl
theorem ti3 : ti Tryz.prog 3 = some ⟨.int .i64, 1, 8, (.int .i64 0)⟩ := by kernel_rfl
theorem zok3 : zeroOK Tryz.prog 3 = true := by kernel_rfl
theorem ti4 : ti Tryz.prog 4 = some ⟨.bool, 1, 1, (.bool false)⟩ := by kernel_rfl
theorem zok4 : zeroOK Tryz.prog 4 = true := by kernel_rfl
theorem ti5 : ti Tryz.prog 5 = some ⟨.int .u8, 1, 1, (.int .u8 0)⟩ := by kernel_rfl
theorem zok5 : zeroOK Tryz.prog 5 = true := by kernel_rfl
theorem ti6 : ti Tryz.prog 6 = some ⟨.int .u8, 1, 1, (.int .u8 0)⟩ := by kernel_rfl
theorem zok6 : zeroOK Tryz.prog 6 = true := by kernel_rfl
theorem ti7 : ti Tryz.prog 7 = some ⟨.struct (Tryz.prog.fieldsOf 7), 4, 24, (.agg #[(.int .i64 0), (.int .i64 0), (.bool false), (.int .u8 0)])⟩ := by kernel_rfl
theorem zok7 : zeroOK Tryz.prog 7 = true := by kernel_rfl
theorem ti8 : ti Tryz.prog 8 = some ⟨.struct (Tryz.prog.fieldsOf 8), 4, 24, (.agg #[(.int .i64 0), (.int .i64 0), (.bool false), (.int .u8 0)])⟩ := by kernel_rfl
theorem zok8 : zeroOK Tryz.prog 8 = true := by kernel_rfl
theorem ti9 : ti Tryz.prog 9 = some ⟨.string, 1, 16, (.string ⟨#[]⟩)⟩ := by kernel_rfl
theorem zok9 : zeroOK Tryz.prog 9 = true := by kernel_rfl
theorem ti10 : ti Tryz.prog 10 = some ⟨.string, 1, 16, (.string ⟨#[]⟩)⟩ := by kernel_rfl
theorem zok10 : zeroOK Tryz.prog 10 = true := by kernel_rfl
theorem ti11 : ti Tryz.prog 11 = some ⟨.string, 1, 16, (.string ⟨#[]⟩)⟩ := by kernel_rfl
theorem zok11 : zeroOK Tryz.prog 11 = true := by kernel_rfl
theorem ti12 : ti Tryz.prog 12 = some ⟨.int .u64, 1, 8, (.int .u64 0)⟩ := by kernel_rfl
theorem zok12 : zeroOK Tryz.prog 12 = true := by kernel_rfl
theorem ti13 : ti Tryz.prog 13 = some ⟨.struct (Tryz.prog.fieldsOf 13), 2, 24, (.agg #[(.string ⟨#[]⟩), (.int .u64 0)])⟩ := by kernel_rfl
theorem zok13 : zeroOK Tryz.prog 13 = true := by kernel_rfl
theorem ti14 : ti Tryz.prog 14 = some ⟨.struct (Tryz.prog.fieldsOf 14), 2, 24, (.agg #[(.string ⟨#[]⟩), (.int .u64 0)])⟩ := by kernel_rfl
theorem zok14 : zeroOK Tryz.prog 14 = true := by kernel_rfl
theorem ti15 : ti Tryz.prog 15 = some ⟨.pointer 143, 1, 8, (.pointer none)⟩ := by kernel_rfl
theorem zok15 : zeroOK Tryz.prog 15 = true := by kernel_rfl
theorem ti16 : ti Tryz.prog 16 = some ⟨.pointer 146, 1, 8, (.pointer none)⟩ := by kernel_rfl
theorem zok16 : zeroOK Tryz.prog 16 = true := by kernel_rfl
theorem ti17 : ti Tryz.prog 17 = some ⟨.pointer 155, 1, 8, (.pointer none)⟩ := by kernel_rfl
theorem zok17 : zeroOK Tryz.prog 17 = true := by kernel_rfl
theorem ti18 : ti Tryz.prog 18 = some ⟨.struct (Tryz.prog.fieldsOf 18), 1, 8, (.agg #[(.pointer none)])⟩ := by kernel_rfl
theorem zok18 : zeroOK Tryz.prog 18 = true := by kernel_rfl
theorem ti19 : ti Tryz.prog 19 = some ⟨.struct (Tryz.prog.fieldsOf 19), 1, 8, (.agg #[(.pointer none)])⟩ := by kernel_rfl
theorem zok19 : zeroOK Tryz.prog 19 = true := by kernel_rfl
theorem ti21 : ti Tryz.prog 21 = some ⟨.int .i32, 1, 4, (.int .i32 0)⟩ := by kernel_rfl
theorem zok21 : zeroOK Tryz.prog 21 = true := by kernel_rfl
theorem ti22 : ti Tryz.prog 22 = some ⟨.slice 5, 1, 24, (.slice none 0 0)⟩ := by kernel_rfl
theorem zok22 : zeroOK Tryz.prog 22 = true := by kernel_rfl
theorem ti24 : ti Tryz.prog 24 = some ⟨.slice 36, 1, 24, (.slice none 0 0)⟩ := by kernel_rfl
theorem zok24 : zeroOK Tryz.prog 24 = true := by kernel_rfl
theorem ti25 : ti Tryz.prog 25 = some ⟨.struct (Tryz.prog.fieldsOf 25), 3, 56, (.agg #[(.int .i64 0), (.slice none 0 0), (.slice none 0 0)])⟩ := by kernel_rfl
theorem zok25 : zeroOK Tryz.prog 25 = true := by kernel_rfl
theorem ti26 : ti Tryz.prog 26 = some ⟨.struct (Tryz.prog.fieldsOf 26), 3, 56, (.agg #[(.int .i64 0), (.slice none 0 0), (.slice none 0 0)])⟩ := by kernel_rfl
theorem zok26 : zeroOK Tryz.prog 26 = true := by kernel_rfl
theorem ti28 : ti Tryz.prog 28 = some ⟨.slice 26, 1, 24, (.slice none 0 0)⟩ := by kernel_rfl
theorem zok28 : zeroOK Tryz.prog 28 = true := by kernel_rfl
theorem ti35 : ti Tryz.prog 35 = some ⟨.array 3 2, 3, 24, (.agg #[(.int .i64 0), (.int .i64 0), (.int .i64 0)])⟩ := by kernel_rfl
theorem zok35 : zeroOK Tryz.prog 35 = true := by kernel_rfl
theorem ti36 : ti Tryz.prog 36 = some ⟨.array 3 2, 3, 24, (.agg #[(.int .i64 0), (.int .i64 0), (.int .i64 0)])⟩ := by kernel_rfl
theorem zok36 : zeroOK Tryz.prog 36 = true := by kernel_rfl
theorem ti38 : ti Tryz.prog 38 = some ⟨.pointer 53, 1, 8, (.pointer none)⟩ := by kernel_rfl
theorem zok38 : zeroOK Tryz.prog 38 = true := by kernel_rfl
theorem ti51 : ti Tryz.prog 51 = some ⟨.int .u64, 1, 8, (.int .u64 0)⟩ := by kernel_rfl
theorem zok51 : zeroOK Tryz.prog 51 = true := by kernel_rfl
theorem ti52 : ti Tryz.prog 52 = some ⟨.struct (Tryz.prog.fieldsOf 52), 3, 40, (.agg #[(.slice none 0 0), (.int .i64 0), (.int .u64 0)])⟩ := by kernel_rfl
theorem zok52 : zeroOK Tryz.prog 52 = true := by kernel_rfl
theorem ti53 : ti Tryz.prog 53 = some ⟨.struct (Tryz.prog.fieldsOf 53), 3, 40, (.agg #[(.slice none 0 0), (.int .i64 0), (.int .u64 0)])⟩ := by kernel_rfl
theorem zok53 : zeroOK Tryz.prog 53 = true := by kernel_rfl
theorem ti59 : ti Tryz.prog 59 = some ⟨.struct (Tryz.prog.fieldsOf 59), 2, 32, (.agg #[(.int .i64 0), (.slice none 0 0)])⟩ := by kernel_rfl
theorem zok59 : zeroOK Tryz.prog 59 = true := by kernel_rfl
theorem ti60 : ti Tryz.prog 60 = some ⟨.struct (Tryz.prog.fieldsOf 60), 2, 32, (.agg #[(.int .i64 0), (.slice none 0 0)])⟩ := by kernel_rfl
theorem zok60 : zeroOK Tryz.prog 60 = true := by kernel_rfl
theorem ti62 : ti Tryz.prog 62 = some ⟨.slice 24, 1, 24, (.slice none 0 0)⟩ := by kernel_rfl
theorem zok62 : zeroOK Tryz.prog 62 = true := by kernel_rfl
theorem ti67 : ti Tryz.prog 67 = some ⟨.pointer 114, 1, 8, (.pointer none)⟩ := by kernel_rfl
theorem zok67 : zeroOK Tryz.prog 67 = true := by kernel_rfl
theorem ti71 : ti Tryz.prog 71 = some ⟨.slice 72, 1, 24, (.slice none 0 0)⟩ := by kernel_rfl
theorem zok71 : zeroOK Tryz.prog 71 = true := by kernel_rfl
theorem ti72 : ti Tryz.prog 72 = some ⟨.array 2 2, 2, 16, (.agg #[(.int .i64 0), (.int .i64 0)])⟩ := by kernel_rfl
theorem zok72 : zeroOK Tryz.prog 72 = true := by kernel_rfl
theorem ti80 : ti Tryz.prog 80 = some ⟨.int .u64, 1, 8, (.int .u64 0)⟩ := by kernel_rfl
theorem zok80 : zeroOK Tryz.prog 80 = true := by kernel_rfl
theorem ti81 : ti Tryz.prog 81 = some ⟨.slice 2, 1, 24, (.slice none 0 0)⟩ := by kernel_rfl
theorem zok81 : zeroOK Tryz.prog 81 = true := by kernel_rfl
theorem ti89 : ti Tryz.prog 89 = some ⟨.slice 4, 1, 24, (.slice none 0 0)⟩ := by kernel_rfl
theorem zok89 : zeroOK Tryz.prog 89 = true := by kernel_rfl
theorem ti98 : ti Tryz.prog 98 = some ⟨.slice 9, 1, 24, (.slice none 0 0)⟩ := by kernel_rfl
theorem zok98 : zeroOK Tryz.prog 98 = true := by kernel_rfl
theorem ti111 : ti Tryz.prog 111 = some ⟨.array 15 2, 15, 120, (.agg (Array.replicate 15 (.int .i64 0)))⟩ := by kernel_rfl
theorem zok111 : zeroOK Tryz.prog 111 = true := by kernel_rfl
theorem ti113 : ti Tryz.prog 113 = some ⟨.array 15 111, 225, 1800, (.agg (Array.replicate 225 (.int .i64 0)))⟩ := by kernel_rfl
theorem zok113 : zeroOK Tryz.prog 113 = true := by kernel_rfl
theorem ti114 : ti Tryz.prog 114 = some ⟨.array 15 111, 225, 1800, (.agg (Array.replicate 225 (.int .i64 0)))⟩ := by kernel_rfl
theorem zok114 : zeroOK Tryz.prog 114 = true := by kernel_rfl
theorem ti122 : ti Tryz.prog 122 = some ⟨.int .i64, 1, 8, (.int .i64 0)⟩ := by kernel_rfl
theorem zok122 : zeroOK Tryz.prog 122 = true := by kernel_rfl
theorem ti130 : ti Tryz.prog 130 = some ⟨.int .u32, 1, 4, (.int .u32 0)⟩ := by kernel_rfl
theorem zok130 : zeroOK Tryz.prog 130 = true := by kernel_rfl
theorem ti132 : ti Tryz.prog 132 = some ⟨.int .u64, 1, 8, (.int .u64 0)⟩ := by kernel_rfl
theorem zok132 : zeroOK Tryz.prog 132 = true := by kernel_rfl
theorem ti136 : ti Tryz.prog 136 = some ⟨.pointer 3, 1, 8, (.pointer none)⟩ := by kernel_rfl
theorem zok136 : zeroOK Tryz.prog 136 = true := by kernel_rfl
theorem ti138 : ti Tryz.prog 138 = some ⟨.pointer 132, 1, 8, (.pointer none)⟩ := by kernel_rfl
theorem zok138 : zeroOK Tryz.prog 138 = true := by kernel_rfl
theorem ti142 : ti Tryz.prog 142 = some ⟨.struct (Tryz.prog.fieldsOf 142), 4, 40, (.agg #[(.pointer none), (.pointer none), (.pointer none), (.string ⟨#[]⟩)])⟩ := by kernel_rfl
theorem zok142 : zeroOK Tryz.prog 142 = true := by kernel_rfl
theorem ti143 : ti Tryz.prog 143 = some ⟨.struct (Tryz.prog.fieldsOf 143), 4, 40, (.agg #[(.pointer none), (.pointer none), (.pointer none), (.string ⟨#[]⟩)])⟩ := by kernel_rfl
theorem zok143 : zeroOK Tryz.prog 143 = true := by kernel_rfl
theorem ti144 : ti Tryz.prog 144 = some ⟨.array 0 16, 0, 0, (.agg #[])⟩ := by kernel_rfl
theorem zok144 : zeroOK Tryz.prog 144 = true := by kernel_rfl
theorem ti145 : ti Tryz.prog 145 = some ⟨.struct (Tryz.prog.fieldsOf 145), 0, 0, (.agg #[])⟩ := by kernel_rfl
theorem zok145 : zeroOK Tryz.prog 145 = true := by kernel_rfl
theorem ti146 : ti Tryz.prog 146 = some ⟨.struct (Tryz.prog.fieldsOf 146), 0, 0, (.agg #[])⟩ := by kernel_rfl
theorem zok146 : zeroOK Tryz.prog 146 = true := by kernel_rfl
theorem ti148 : ti Tryz.prog 148 = some ⟨.int .u8, 1, 1, (.int .u8 0)⟩ := by kernel_rfl
theorem zok148 : zeroOK Tryz.prog 148 = true := by kernel_rfl
theorem ti149 : ti Tryz.prog 149 = some ⟨.int .u8, 1, 1, (.int .u8 0)⟩ := by kernel_rfl
theorem zok149 : zeroOK Tryz.prog 149 = true := by kernel_rfl
theorem ti151 : ti Tryz.prog 151 = some ⟨.pointer 5, 1, 8, (.pointer none)⟩ := by kernel_rfl
theorem zok151 : zeroOK Tryz.prog 151 = true := by kernel_rfl
theorem ti152 : ti Tryz.prog 152 = some ⟨.int .i32, 1, 4, (.int .i32 0)⟩ := by kernel_rfl
theorem zok152 : zeroOK Tryz.prog 152 = true := by kernel_rfl
theorem ti153 : ti Tryz.prog 153 = some ⟨.int .i32, 1, 4, (.int .i32 0)⟩ := by kernel_rfl
theorem zok153 : zeroOK Tryz.prog 153 = true := by kernel_rfl
theorem ti154 : ti Tryz.prog 154 = some ⟨.struct (Tryz.prog.fieldsOf 154), 11, 48, (.agg #[(.int .u64 0), (.int .u64 0), (.int .u32 0), (.int .u8 0), (.int .u8 0), (.int .u8 0), (.int .u8 0), .nilFunc, (.pointer none), (.int .i32 0), (.int .i32 0)])⟩ := by kernel_rfl
theorem zok154 : zeroOK Tryz.prog 154 = true := by kernel_rfl
theorem ti155 : ti Tryz.prog 155 = some ⟨.struct (Tryz.prog.fieldsOf 155), 11, 48, (.agg #[(.int .u64 0), (.int .u64 0), (.int .u32 0), (.int .u8 0), (.int .u8 0), (.int .u8 0), (.int .u8 0), .nilFunc, (.pointer none), (.int .i32 0), (.int .i32 0)])⟩ := by kernel_rfl
theorem zok155 : zeroOK Tryz.prog 155 = true := by kernel_rfl
theorem bt7_  : Tryz.prog.built 7 [] = some #[(.int .i64 0), (.int .i64 0), (.bool false), (.int .u8 0)] := by kernel_rfl
theorem bt7_0 (x0 : Int) : Tryz.prog.built 7 [(0, (.int .i64 x0))] = some #[(.int .i64 x0), (.int .i64 0), (.bool false), (.int .u8 0)] := by kernel_rfl
theorem bt7_1 (x1 : Int) : Tryz.prog.built 7 [(1, (.int .i64 x1))] = some #[(.int .i64 0), (.int .i64 x1), (.bool false), (.int .u8 0)] := by kernel_rfl
theorem bt7_2 (x2 : Bool) : Tryz.prog.built 7 [(2, (.bool x2))] = some #[(.int .i64 0), (.int .i64 0), (.bool x2), (.int .u8 0)] := by kernel_rfl
theorem bt7_3 (x3 : Int) : Tryz.prog.built 7 [(3, (.int .u8 x3))] = some #[(.int .i64 0), (.int .i64 0), (.bool false), (.int .u8 x3)] := by kernel_rfl
theorem bt7_01 (x0 : Int) (x1 : Int) : Tryz.prog.built 7 [(0, (.int .i64 x0)), (1, (.int .i64 x1))] = some #[(.int .i64 x0), (.int .i64 x1), (.bool false), (.int .u8 0)] := by kernel_rfl
theorem bt7_02 (x0 : Int) (x2 : Bool) : Tryz.prog.built 7 [(0, (.int .i64 x0)), (2, (.bool x2))] = some #[(.int .i64 x0), (.int .i64 0), (.bool x2), (.int .u8 0)] := by kernel_rfl
theorem bt7_03 (x0 : Int) (x3 : Int) : Tryz.prog.built 7 [(0, (.int .i64 x0)), (3, (.int .u8 x3))] = some #[(.int .i64 x0), (.int .i64 0), (.bool false), (.int .u8 x3)] := by kernel_rfl
theorem bt7_12 (x1 : Int) (x2 : Bool) : Tryz.prog.built 7 [(1, (.int .i64 x1)), (2, (.bool x2))] = some #[(.int .i64 0), (.int .i64 x1), (.bool x2), (.int .u8 0)] := by kernel_rfl
theorem bt7_13 (x1 : Int) (x3 : Int) : Tryz.prog.built 7 [(1, (.int .i64 x1)), (3, (.int .u8 x3))] = some #[(.int .i64 0), (.int .i64 x1), (.bool false), (.int .u8 x3)] := by kernel_rfl
theorem bt7_23 (x2 : Bool) (x3 : Int) : Tryz.prog.built 7 [(2, (.bool x2)), (3, (.int .u8 x3))] = some #[(.int .i64 0), (.int .i64 0), (.bool x2), (.int .u8 x3)] := by kernel_rfl
theorem bt7_012 (x0 : Int) (x1 : Int) (x2 : Bool) : Tryz.prog.built 7 [(0, (.int .i64 x0)), (1, (.int .i64 x1)), (2, (.bool x2))] = some #[(.int .i64 x0), (.int .i64 x1), (.bool x2), (.int .u8 0)] := by kernel_rfl
theorem bt7_013 (x0 : Int) (x1 : Int) (x3 : Int) : Tryz.prog.built 7 [(0, (.int .i64 x0)), (1, (.int .i64 x1)), (3, (.int .u8 x3))] = some #[(.int .i64 x0), (.int .i64 x1), (.bool false), (.int .u8 x3)] := by kernel_rfl
theorem bt7_023 (x0 : Int) (x2 : Bool) (x3 : Int) : Tryz.prog.built 7 [(0, (.int .i64 x0)), (2, (.bool x2)), (3, (.int .u8 x3))] = some #[(.int .i64 x0), (.int .i64 0), (.bool x2), (.int .u8 x3)] := by kernel_rfl
theorem bt7_123 (x1 : Int) (x2 : Bool) (x3 : Int) : Tryz.prog.built 7 [(1, (.int .i64 x1)), (2, (.bool x2)), (3, (.int .u8 x3))] = some #[(.int .i64 0), (.int .i64 x1), (.bool x2), (.int .u8 x3)] := by kernel_rfl
theorem bt7_0123 (x0 : Int) (x1 : Int) (x2 : Bool) (x3 : Int) : Tryz.prog.built 7 [(0, (.int .i64 x0)), (1, (.int .i64 x1)), (2, (.bool x2)), (3, (.int .u8 x3))] = some #[(.int .i64 x0), (.int .i64 x1), (.bool x2), (.int .u8 x3)] := by kernel_rfl
theorem bt8_  : Tryz.prog.built 8 [] = some #[(.int .i64 0), (.int .i64 0), (.bool false), (.int .u8 0)] := by kernel_rfl
theorem bt8_0 (x0 : Int) : Tryz.prog.built 8 [(0, (.int .i64 x0))] = some #[(.int .i64 x0), (.int .i64 0), (.bool false), (.int .u8 0)] := by kernel_rfl
theorem bt8_1 (x1 : Int) : Tryz.prog.built 8 [(1, (.int .i64 x1))] = some #[(.int .i64 0), (.int .i64 x1), (.bool false), (.int .u8 0)] := by kernel_rfl
theorem bt8_2 (x2 : Bool) : Tryz.prog.built 8 [(2, (.bool x2))] = some #[(.int .i64 0), (.int .i64 0), (.bool x2), (.int .u8 0)] := by kernel_rfl
theorem bt8_3 (x3 : Int) : Tryz.prog.built 8 [(3, (.int .u8 x3))] = some #[(.int .i64 0), (.int .i64 0), (.bool false), (.int .u8 x3)] := by kernel_rfl
theorem bt8_01 (x0 : Int) (x1 : Int) : Tryz.prog.built 8 [(0, (.int .i64 x0)), (1, (.int .i64 x1))] = some #[(.int .i64 x0), (.int .i64 x1), (.bool false), (.int .u8 0)] := by kernel_rfl
theorem bt8_02 (x0 : Int) (x2 : Bool) : Tryz.prog.built 8 [(0, (.int .i64 x0)), (2, (.bool x2))] = some #[(.int .i64 x0), (.int .i64 0), (.bool x2), (.int .u8 0)] := by kernel_rfl
theorem bt8_03 (x0 : Int) (x3 : Int) : Tryz.prog.built 8 [(0, (.int .i64 x0)), (3, (.int .u8 x3))] = some #[(.int .i64 x0), (.int .i64 0), (.bool false), (.int .u8 x3)] := by kernel_rfl
theorem bt8_12 (x1 : Int) (x2 : Bool) : Tryz.prog.built 8 [(1, (.int .i64 x1)), (2, (.bool x2))] = some #[(.int .i64 0), (.int .i64 x1), (.bool x2), (.int .u8 0)] := by kernel_rfl
theorem bt8_13 (x1 : Int) (x3 : Int) : Tryz.prog.built 8 [(1, (.int .i64 x1)), (3, (.int .u8 x3))] = some #[(.int .i64 0), (.int .i64 x1), (.bool false), (.int .u8 x3)] := by kernel_rfl
theorem bt8_23 (x2 : Bool) (x3 : Int) : Tryz.prog.built 8 [(2, (.bool x2)), (3, (.int .u8 x3))] = some #[(.int .i64 0), (.int .i64 0), (.bool x2), (.int .u8 x3)] := by kernel_rfl
theorem bt8_012 (x0 : Int) (x1 : Int) (x2 : Bool) : Tryz.prog.built 8 [(0, (.int .i64 x0)), (1, (.int .i64 x1)), (2, (.bool x2))] = some #[(.int .i64 x0), (.int .i64 x1), (.bool x2), (.int .u8 0)] := by kernel_rfl
theorem bt8_013 (x0 : Int) (x1 : Int) (x3 : Int) : Tryz.prog.built 8 [(0, (.int .i64 x0)), (1, (.int .i64 x1)), (3, (.int .u8 x3))] = some #[(.int .i64 x0), (.int .i64 x1), (.bool false), (.int .u8 x3)] := by kernel_rfl
theorem bt8_023 (x0 : Int) (x2 : Bool) (x3 : Int) : Tryz.prog.built 8 [(0, (.int .i64 x0)), (2, (.bool x2)), (3, (.int .u8 x3))] = some #[(.int .i64 x0), (.int .i64 0), (.bool x2), (.int .u8 x3)] := by kernel_rfl
theorem bt8_123 (x1 : Int) (x2 : Bool) (x3 : Int) : Tryz.prog.built 8 [(1, (.int .i64 x1)), (2, (.bool x2)), (3, (.int .u8 x3))] = some #[(.int .i64 0), (.int .i64 x1), (.bool x2), (.int .u8 x3)] := by kernel_rfl
theorem bt8_0123 (x0 : Int) (x1 : Int) (x2 : Bool) (x3 : Int) : Tryz.prog.built 8 [(0, (.int .i64 x0)), (1, (.int .i64 x1)), (2, (.bool x2)), (3, (.int .u8 x3))] = some #[(.int .i64 x0), (.int .i64 x1), (.bool x2), (.int .u8 x3)] := by kernel_rfl
theorem bt13_  : Tryz.prog.built 13 [] = some #[(.string ⟨#[]⟩), (.int .u64 0)] := by kernel_rfl
theorem bt13_0 (x0 : ByteArray) : Tryz.prog.built 13 [(0, (.string x0))] = some #[(.string x0), (.int .u64 0)] := by kernel_rfl
theorem bt13_1 (x1 : Int) : Tryz.prog.built 13 [(1, (.int .u64 x1))] = some #[(.string ⟨#[]⟩), (.int .u64 x1)] := by kernel_rfl
theorem bt13_01 (x0 : ByteArray) (x1 : Int) : Tryz.prog.built 13 [(0, (.string x0)), (1, (.int .u64 x1))] = some #[(.string x0), (.int .u64 x1)] := by kernel_rfl
theorem bt14_  : Tryz.prog.built 14 [] = some #[(.string ⟨#[]⟩), (.int .u64 0)] := by kernel_rfl
theorem bt14_0 (x0 : ByteArray) : Tryz.prog.built 14 [(0, (.string x0))] = some #[(.string x0), (.int .u64 0)] := by kernel_rfl
theorem bt14_1 (x1 : Int) : Tryz.prog.built 14 [(1, (.int .u64 x1))] = some #[(.string ⟨#[]⟩), (.int .u64 x1)] := by kernel_rfl
theorem bt14_01 (x0 : ByteArray) (x1 : Int) : Tryz.prog.built 14 [(0, (.string x0)), (1, (.int .u64 x1))] = some #[(.string x0), (.int .u64 x1)] := by kernel_rfl
theorem bt18_  : Tryz.prog.built 18 [] = some #[(.pointer none)] := by kernel_rfl
theorem bt18_0 (x0 : Option Addr) : Tryz.prog.built 18 [(0, (.pointer x0))] = some #[(.pointer x0)] := by kernel_rfl
theorem bt19_  : Tryz.prog.built 19 [] = some #[(.pointer none)] := by kernel_rfl
theorem bt19_0 (x0 : Option Addr) : Tryz.prog.built 19 [(0, (.pointer x0))] = some #[(.pointer x0)] := by kernel_rfl
theorem bs5_0  : builtSl Tryz.prog 5 0 [] = some #[] := by kernel_rfl
theorem bs5_1 (x0 : Int) : builtSl Tryz.prog 5 1 [(0, (.int .u8 x0))] = some #[(.int .u8 x0)] := by kernel_rfl
theorem bs5_2 (x0 : Int) (x1 : Int) : builtSl Tryz.prog 5 2 [(0, (.int .u8 x0)), (1, (.int .u8 x1))] = some #[(.int .u8 x0), (.int .u8 x1)] := by kernel_rfl
theorem bs5_3 (x0 : Int) (x1 : Int) (x2 : Int) : builtSl Tryz.prog 5 3 [(0, (.int .u8 x0)), (1, (.int .u8 x1)), (2, (.int .u8 x2))] = some #[(.int .u8 x0), (.int .u8 x1), (.int .u8 x2)] := by kernel_rfl
theorem bs5_4 (x0 : Int) (x1 : Int) (x2 : Int) (x3 : Int) : builtSl Tryz.prog 5 4 [(0, (.int .u8 x0)), (1, (.int .u8 x1)), (2, (.int .u8 x2)), (3, (.int .u8 x3))] = some #[(.int .u8 x0), (.int .u8 x1), (.int .u8 x2), (.int .u8 x3)] := by kernel_rfl
theorem bs5_5 (x0 : Int) (x1 : Int) (x2 : Int) (x3 : Int) (x4 : Int) : builtSl Tryz.prog 5 5 [(0, (.int .u8 x0)), (1, (.int .u8 x1)), (2, (.int .u8 x2)), (3, (.int .u8 x3)), (4, (.int .u8 x4))] = some #[(.int .u8 x0), (.int .u8 x1), (.int .u8 x2), (.int .u8 x3), (.int .u8 x4)] := by kernel_rfl
theorem bs5_6 (x0 : Int) (x1 : Int) (x2 : Int) (x3 : Int) (x4 : Int) (x5 : Int) : builtSl Tryz.prog 5 6 [(0, (.int .u8 x0)), (1, (.int .u8 x1)), (2, (.int .u8 x2)), (3, (.int .u8 x3)), (4, (.int .u8 x4)), (5, (.int .u8 x5))] = some #[(.int .u8 x0), (.int .u8 x1), (.int .u8 x2), (.int .u8 x3), (.int .u8 x4), (.int .u8 x5)] := by kernel_rfl
theorem bs36_0  : builtSl Tryz.prog 36 0 [] = some #[] := by kernel_rfl
theorem bs36_1 (v0_0 v0_1 v0_2 : Value) : builtSl Tryz.prog 36 1 [(0, (.agg #[v0_0, v0_1, v0_2]))] = some #[v0_0, v0_1, v0_2] := by kernel_rfl
theorem bs36_2 (v0_0 v0_1 v0_2 : Value) (v1_0 v1_1 v1_2 : Value) : builtSl Tryz.prog 36 2 [(0, (.agg #[v0_0, v0_1, v0_2])), (1, (.agg #[v1_0, v1_1, v1_2]))] = some #[v0_0, v0_1, v0_2, v1_0, v1_1, v1_2] := by kernel_rfl
theorem bs36_3 (v0_0 v0_1 v0_2 : Value) (v1_0 v1_1 v1_2 : Value) (v2_0 v2_1 v2_2 : Value) : builtSl Tryz.prog 36 3 [(0, (.agg #[v0_0, v0_1, v0_2])), (1, (.agg #[v1_0, v1_1, v1_2])), (2, (.agg #[v2_0, v2_1, v2_2]))] = some #[v0_0, v0_1, v0_2, v1_0, v1_1, v1_2, v2_0, v2_1, v2_2] := by kernel_rfl
theorem bs36_4 (v0_0 v0_1 v0_2 : Value) (v1_0 v1_1 v1_2 : Value) (v2_0 v2_1 v2_2 : Value) (v3_0 v3_1 v3_2 : Value) : builtSl Tryz.prog 36 4 [(0, (.agg #[v0_0, v0_1, v0_2])), (1, (.agg #[v1_0, v1_1, v1_2])), (2, (.agg #[v2_0, v2_1, v2_2])), (3, (.agg #[v3_0, v3_1, v3_2]))] = some #[v0_0, v0_1, v0_2, v1_0, v1_1, v1_2, v2_0, v2_1, v2_2, v3_0, v3_1, v3_2] := by kernel_rfl
theorem bs36_5 (v0_0 v0_1 v0_2 : Value) (v1_0 v1_1 v1_2 : Value) (v2_0 v2_1 v2_2 : Value) (v3_0 v3_1 v3_2 : Value) (v4_0 v4_1 v4_2 : Value) : builtSl Tryz.prog 36 5 [(0, (.agg #[v0_0, v0_1, v0_2])), (1, (.agg #[v1_0, v1_1, v1_2])), (2, (.agg #[v2_0, v2_1, v2_2])), (3, (.agg #[v3_0, v3_1, v3_2])), (4, (.agg #[v4_0, v4_1, v4_2]))] = some #[v0_0, v0_1, v0_2, v1_0, v1_1, v1_2, v2_0, v2_1, v2_2, v3_0, v3_1, v3_2, v4_0, v4_1, v4_2] := by kernel_rfl
theorem bs36_6 (v0_0 v0_1 v0_2 : Value) (v1_0 v1_1 v1_2 : Value) (v2_0 v2_1 v2_2 : Value) (v3_0 v3_1 v3_2 : Value) (v4_0 v4_1 v4_2 : Value) (v5_0 v5_1 v5_2 : Value) : builtSl Tryz.prog 36 6 [(0, (.agg #[v0_0, v0_1, v0_2])), (1, (.agg #[v1_0, v1_1, v1_2])), (2, (.agg #[v2_0, v2_1, v2_2])), (3, (.agg #[v3_0, v3_1, v3_2])), (4, (.agg #[v4_0, v4_1, v4_2])), (5, (.agg #[v5_0, v5_1, v5_2]))] = some #[v0_0, v0_1, v0_2, v1_0, v1_1, v1_2, v2_0, v2_1, v2_2, v3_0, v3_1, v3_2, v4_0, v4_1, v4_2, v5_0, v5_1, v5_2] := by kernel_rfl
theorem bt25_  : Tryz.prog.built 25 [] = some #[(.int .i64 0), (.slice none 0 0), (.slice none 0 0)] := by kernel_rfl
theorem bt25_0 (x0 : Int) : Tryz.prog.built 25 [(0, (.int .i64 x0))] = some #[(.int .i64 x0), (.slice none 0 0), (.slice none 0 0)] := by kernel_rfl
theorem bt25_1 (a1 : Option Addr) (n1 c1 : Nat) : Tryz.prog.built 25 [(1, (.slice a1 n1 c1))] = some #[(.int .i64 0), (.slice a1 n1 c1), (.slice none 0 0)] := by kernel_rfl
theorem bt25_2 (a2 : Option Addr) (n2 c2 : Nat) : Tryz.prog.built 25 [(2, (.slice a2 n2 c2))] = some #[(.int .i64 0), (.slice none 0 0), (.slice a2 n2 c2)] := by kernel_rfl
theorem bt25_01 (x0 : Int) (a1 : Option Addr) (n1 c1 : Nat) : Tryz.prog.built 25 [(0, (.int .i64 x0)), (1, (.slice a1 n1 c1))] = some #[(.int .i64 x0), (.slice a1 n1 c1), (.slice none 0 0)] := by kernel_rfl
theorem bt25_02 (x0 : Int) (a2 : Option Addr) (n2 c2 : Nat) : Tryz.prog.built 25 [(0, (.int .i64 x0)), (2, (.slice a2 n2 c2))] = some #[(.int .i64 x0), (.slice none 0 0), (.slice a2 n2 c2)] := by kernel_rfl
theorem bt25_12 (a1 : Option Addr) (n1 c1 : Nat) (a2 : Option Addr) (n2 c2 : Nat) : Tryz.prog.built 25 [(1, (.slice a1 n1 c1)), (2, (.slice a2 n2 c2))] = some #[(.int .i64 0), (.slice a1 n1 c1), (.slice a2 n2 c2)] := by kernel_rfl
theorem bt25_012 (x0 : Int) (a1 : Option Addr) (n1 c1 : Nat) (a2 : Option Addr) (n2 c2 : Nat) : Tryz.prog.built 25 [(0, (.int .i64 x0)), (1, (.slice a1 n1 c1)), (2, (.slice a2 n2 c2))] = some #[(.int .i64 x0), (.slice a1 n1 c1), (.slice a2 n2 c2)] := by kernel_rfl
theorem bt26_  : Tryz.prog.built 26 [] = some #[(.int .i64 0), (.slice none 0 0), (.slice none 0 0)] := by kernel_rfl
theorem bt26_0 (x0 : Int) : Tryz.prog.built 26 [(0, (.int .i64 x0))] = some #[(.int .i64 x0), (.slice none 0 0), (.slice none 0 0)] := by kernel_rfl
theorem bt26_1 (a1 : Option Addr) (n1 c1 : Nat) : Tryz.prog.built 26 [(1, (.slice a1 n1 c1))] = some #[(.int .i64 0), (.slice a1 n1 c1), (.slice none 0 0)] := by kernel_rfl
theorem bt26_2 (a2 : Option Addr) (n2 c2 : Nat) : Tryz.prog.built 26 [(2, (.slice a2 n2 c2))] = some #[(.int .i64 0), (.slice none 0 0), (.slice a2 n2 c2)] := by kernel_rfl
theorem bt26_01 (x0 : Int) (a1 : Option Addr) (n1 c1 : Nat) : Tryz.prog.built 26 [(0, (.int .i64 x0)), (1, (.slice a1 n1 c1))] = some #[(.int .i64 x0), (.slice a1 n1 c1), (.slice none 0 0)] := by kernel_rfl
theorem bt26_02 (x0 : Int) (a2 : Option Addr) (n2 c2 : Nat) : Tryz.prog.built 26 [(0, (.int .i64 x0)), (2, (.slice a2 n2 c2))] = some #[(.int .i64 x0), (.slice none 0 0), (.slice a2 n2 c2)] := by kernel_rfl
theorem bt26_12 (a1 : Option Addr) (n1 c1 : Nat) (a2 : Option Addr) (n2 c2 : Nat) : Tryz.prog.built 26 [(1, (.slice a1 n1 c1)), (2, (.slice a2 n2 c2))] = some #[(.int .i64 0), (.slice a1 n1 c1), (.slice a2 n2 c2)] := by kernel_rfl
theorem bt26_012 (x0 : Int) (a1 : Option Addr) (n1 c1 : Nat) (a2 : Option Addr) (n2 c2 : Nat) : Tryz.prog.built 26 [(0, (.int .i64 x0)), (1, (.slice a1 n1 c1)), (2, (.slice a2 n2 c2))] = some #[(.int .i64 x0), (.slice a1 n1 c1), (.slice a2 n2 c2)] := by kernel_rfl
theorem bs26_0  : builtSl Tryz.prog 26 0 [] = some #[] := by kernel_rfl
theorem bs26_1 (v0_0 v0_1 v0_2 : Value) : builtSl Tryz.prog 26 1 [(0, (.agg #[v0_0, v0_1, v0_2]))] = some #[v0_0, v0_1, v0_2] := by kernel_rfl
theorem bs26_2 (v0_0 v0_1 v0_2 : Value) (v1_0 v1_1 v1_2 : Value) : builtSl Tryz.prog 26 2 [(0, (.agg #[v0_0, v0_1, v0_2])), (1, (.agg #[v1_0, v1_1, v1_2]))] = some #[v0_0, v0_1, v0_2, v1_0, v1_1, v1_2] := by kernel_rfl
theorem bs26_3 (v0_0 v0_1 v0_2 : Value) (v1_0 v1_1 v1_2 : Value) (v2_0 v2_1 v2_2 : Value) : builtSl Tryz.prog 26 3 [(0, (.agg #[v0_0, v0_1, v0_2])), (1, (.agg #[v1_0, v1_1, v1_2])), (2, (.agg #[v2_0, v2_1, v2_2]))] = some #[v0_0, v0_1, v0_2, v1_0, v1_1, v1_2, v2_0, v2_1, v2_2] := by kernel_rfl
theorem bs26_4 (v0_0 v0_1 v0_2 : Value) (v1_0 v1_1 v1_2 : Value) (v2_0 v2_1 v2_2 : Value) (v3_0 v3_1 v3_2 : Value) : builtSl Tryz.prog 26 4 [(0, (.agg #[v0_0, v0_1, v0_2])), (1, (.agg #[v1_0, v1_1, v1_2])), (2, (.agg #[v2_0, v2_1, v2_2])), (3, (.agg #[v3_0, v3_1, v3_2]))] = some #[v0_0, v0_1, v0_2, v1_0, v1_1, v1_2, v2_0, v2_1, v2_2, v3_0, v3_1, v3_2] := by kernel_rfl
theorem bs26_5 (v0_0 v0_1 v0_2 : Value) (v1_0 v1_1 v1_2 : Value) (v2_0 v2_1 v2_2 : Value) (v3_0 v3_1 v3_2 : Value) (v4_0 v4_1 v4_2 : Value) : builtSl Tryz.prog 26 5 [(0, (.agg #[v0_0, v0_1, v0_2])), (1, (.agg #[v1_0, v1_1, v1_2])), (2, (.agg #[v2_0, v2_1, v2_2])), (3, (.agg #[v3_0, v3_1, v3_2])), (4, (.agg #[v4_0, v4_1, v4_2]))] = some #[v0_0, v0_1, v0_2, v1_0, v1_1, v1_2, v2_0, v2_1, v2_2, v3_0, v3_1, v3_2, v4_0, v4_1, v4_2] := by kernel_rfl
theorem bs26_6 (v0_0 v0_1 v0_2 : Value) (v1_0 v1_1 v1_2 : Value) (v2_0 v2_1 v2_2 : Value) (v3_0 v3_1 v3_2 : Value) (v4_0 v4_1 v4_2 : Value) (v5_0 v5_1 v5_2 : Value) : builtSl Tryz.prog 26 6 [(0, (.agg #[v0_0, v0_1, v0_2])), (1, (.agg #[v1_0, v1_1, v1_2])), (2, (.agg #[v2_0, v2_1, v2_2])), (3, (.agg #[v3_0, v3_1, v3_2])), (4, (.agg #[v4_0, v4_1, v4_2])), (5, (.agg #[v5_0, v5_1, v5_2]))] = some #[v0_0, v0_1, v0_2, v1_0, v1_1, v1_2, v2_0, v2_1, v2_2, v3_0, v3_1, v3_2, v4_0, v4_1, v4_2, v5_0, v5_1, v5_2] := by kernel_rfl
theorem bt35_  : Tryz.prog.built 35 [] = some #[(.int .i64 0), (.int .i64 0), (.int .i64 0)] := by kernel_rfl
theorem bt35_0 (x0 : Int) : Tryz.prog.built 35 [(0, (.int .i64 x0))] = some #[(.int .i64 x0), (.int .i64 0), (.int .i64 0)] := by kernel_rfl
theorem bt35_1 (x1 : Int) : Tryz.prog.built 35 [(1, (.int .i64 x1))] = some #[(.int .i64 0), (.int .i64 x1), (.int .i64 0)] := by kernel_rfl
theorem bt35_2 (x2 : Int) : Tryz.prog.built 35 [(2, (.int .i64 x2))] = some #[(.int .i64 0), (.int .i64 0), (.int .i64 x2)] := by kernel_rfl
theorem bt35_01 (x0 : Int) (x1 : Int) : Tryz.prog.built 35 [(0, (.int .i64 x0)), (1, (.int .i64 x1))] = some #[(.int .i64 x0), (.int .i64 x1), (.int .i64 0)] := by kernel_rfl
theorem bt35_02 (x0 : Int) (x2 : Int) : Tryz.prog.built 35 [(0, (.int .i64 x0)), (2, (.int .i64 x2))] = some #[(.int .i64 x0), (.int .i64 0), (.int .i64 x2)] := by kernel_rfl
theorem bt35_12 (x1 : Int) (x2 : Int) : Tryz.prog.built 35 [(1, (.int .i64 x1)), (2, (.int .i64 x2))] = some #[(.int .i64 0), (.int .i64 x1), (.int .i64 x2)] := by kernel_rfl
theorem bt35_012 (x0 : Int) (x1 : Int) (x2 : Int) : Tryz.prog.built 35 [(0, (.int .i64 x0)), (1, (.int .i64 x1)), (2, (.int .i64 x2))] = some #[(.int .i64 x0), (.int .i64 x1), (.int .i64 x2)] := by kernel_rfl
theorem bt36_  : Tryz.prog.built 36 [] = some #[(.int .i64 0), (.int .i64 0), (.int .i64 0)] := by kernel_rfl
theorem bt36_0 (x0 : Int) : Tryz.prog.built 36 [(0, (.int .i64 x0))] = some #[(.int .i64 x0), (.int .i64 0), (.int .i64 0)] := by kernel_rfl
theorem bt36_1 (x1 : Int) : Tryz.prog.built 36 [(1, (.int .i64 x1))] = some #[(.int .i64 0), (.int .i64 x1), (.int .i64 0)] := by kernel_rfl
theorem bt36_2 (x2 : Int) : Tryz.prog.built 36 [(2, (.int .i64 x2))] = some #[(.int .i64 0), (.int .i64 0), (.int .i64 x2)] := by kernel_rfl
theorem bt36_01 (x0 : Int) (x1 : Int) : Tryz.prog.built 36 [(0, (.int .i64 x0)), (1, (.int .i64 x1))] = some #[(.int .i64 x0), (.int .i64 x1), (.int .i64 0)] := by kernel_rfl
theorem bt36_02 (x0 : Int) (x2 : Int) : Tryz.prog.built 36 [(0, (.int .i64 x0)), (2, (.int .i64 x2))] = some #[(.int .i64 x0), (.int .i64 0), (.int .i64 x2)] := by kernel_rfl
theorem bt36_12 (x1 : Int) (x2 : Int) : Tryz.prog.built 36 [(1, (.int .i64 x1)), (2, (.int .i64 x2))] = some #[(.int .i64 0), (.int .i64 x1), (.int .i64 x2)] := by kernel_rfl
theorem bt36_012 (x0 : Int) (x1 : Int) (x2 : Int) : Tryz.prog.built 36 [(0, (.int .i64 x0)), (1, (.int .i64 x1)), (2, (.int .i64 x2))] = some #[(.int .i64 x0), (.int .i64 x1), (.int .i64 x2)] := by kernel_rfl
theorem bt52_  : Tryz.prog.built 52 [] = some #[(.slice none 0 0), (.int .i64 0), (.int .u64 0)] := by kernel_rfl
theorem bt52_0 (a0 : Option Addr) (n0 c0 : Nat) : Tryz.prog.built 52 [(0, (.slice a0 n0 c0))] = some #[(.slice a0 n0 c0), (.int .i64 0), (.int .u64 0)] := by kernel_rfl
theorem bt52_1 (x1 : Int) : Tryz.prog.built 52 [(1, (.int .i64 x1))] = some #[(.slice none 0 0), (.int .i64 x1), (.int .u64 0)] := by kernel_rfl
theorem bt52_2 (x2 : Int) : Tryz.prog.built 52 [(2, (.int .u64 x2))] = some #[(.slice none 0 0), (.int .i64 0), (.int .u64 x2)] := by kernel_rfl
theorem bt52_01 (a0 : Option Addr) (n0 c0 : Nat) (x1 : Int) : Tryz.prog.built 52 [(0, (.slice a0 n0 c0)), (1, (.int .i64 x1))] = some #[(.slice a0 n0 c0), (.int .i64 x1), (.int .u64 0)] := by kernel_rfl
theorem bt52_02 (a0 : Option Addr) (n0 c0 : Nat) (x2 : Int) : Tryz.prog.built 52 [(0, (.slice a0 n0 c0)), (2, (.int .u64 x2))] = some #[(.slice a0 n0 c0), (.int .i64 0), (.int .u64 x2)] := by kernel_rfl
theorem bt52_12 (x1 : Int) (x2 : Int) : Tryz.prog.built 52 [(1, (.int .i64 x1)), (2, (.int .u64 x2))] = some #[(.slice none 0 0), (.int .i64 x1), (.int .u64 x2)] := by kernel_rfl
theorem bt52_012 (a0 : Option Addr) (n0 c0 : Nat) (x1 : Int) (x2 : Int) : Tryz.prog.built 52 [(0, (.slice a0 n0 c0)), (1, (.int .i64 x1)), (2, (.int .u64 x2))] = some #[(.slice a0 n0 c0), (.int .i64 x1), (.int .u64 x2)] := by kernel_rfl
theorem bt53_  : Tryz.prog.built 53 [] = some #[(.slice none 0 0), (.int .i64 0), (.int .u64 0)] := by kernel_rfl
theorem bt53_0 (a0 : Option Addr) (n0 c0 : Nat) : Tryz.prog.built 53 [(0, (.slice a0 n0 c0))] = some #[(.slice a0 n0 c0), (.int .i64 0), (.int .u64 0)] := by kernel_rfl
theorem bt53_1 (x1 : Int) : Tryz.prog.built 53 [(1, (.int .i64 x1))] = some #[(.slice none 0 0), (.int .i64 x1), (.int .u64 0)] := by kernel_rfl
theorem bt53_2 (x2 : Int) : Tryz.prog.built 53 [(2, (.int .u64 x2))] = some #[(.slice none 0 0), (.int .i64 0), (.int .u64 x2)] := by kernel_rfl
theorem bt53_01 (a0 : Option Addr) (n0 c0 : Nat) (x1 : Int) : Tryz.prog.built 53 [(0, (.slice a0 n0 c0)), (1, (.int .i64 x1))] = some #[(.slice a0 n0 c0), (.int .i64 x1), (.int .u64 0)] := by kernel_rfl
theorem bt53_02 (a0 : Option Addr) (n0 c0 : Nat) (x2 : Int) : Tryz.prog.built 53 [(0, (.slice a0 n0 c0)), (2, (.int .u64 x2))] = some #[(.slice a0 n0 c0), (.int .i64 0), (.int .u64 x2)] := by kernel_rfl
theorem bt53_12 (x1 : Int) (x2 : Int) : Tryz.prog.built 53 [(1, (.int .i64 x1)), (2, (.int .u64 x2))] = some #[(.slice none 0 0), (.int .i64 x1), (.int .u64 x2)] := by kernel_rfl
theorem bt53_012 (a0 : Option Addr) (n0 c0 : Nat) (x1 : Int) (x2 : Int) : Tryz.prog.built 53 [(0, (.slice a0 n0 c0)), (1, (.int .i64 x1)), (2, (.int .u64 x2))] = some #[(.slice a0 n0 c0), (.int .i64 x1), (.int .u64 x2)] := by kernel_rfl
theorem bt59_  : Tryz.prog.built 59 [] = some #[(.int .i64 0), (.slice none 0 0)] := by kernel_rfl
theorem bt59_0 (x0 : Int) : Tryz.prog.built 59 [(0, (.int .i64 x0))] = some #[(.int .i64 x0), (.slice none 0 0)] := by kernel_rfl
theorem bt59_1 (a1 : Option Addr) (n1 c1 : Nat) : Tryz.prog.built 59 [(1, (.slice a1 n1 c1))] = some #[(.int .i64 0), (.slice a1 n1 c1)] := by kernel_rfl
theorem bt59_01 (x0 : Int) (a1 : Option Addr) (n1 c1 : Nat) : Tryz.prog.built 59 [(0, (.int .i64 x0)), (1, (.slice a1 n1 c1))] = some #[(.int .i64 x0), (.slice a1 n1 c1)] := by kernel_rfl
theorem bt60_  : Tryz.prog.built 60 [] = some #[(.int .i64 0), (.slice none 0 0)] := by kernel_rfl
theorem bt60_0 (x0 : Int) : Tryz.prog.built 60 [(0, (.int .i64 x0))] = some #[(.int .i64 x0), (.slice none 0 0)] := by kernel_rfl
theorem bt60_1 (a1 : Option Addr) (n1 c1 : Nat) : Tryz.prog.built 60 [(1, (.slice a1 n1 c1))] = some #[(.int .i64 0), (.slice a1 n1 c1)] := by kernel_rfl
theorem bt60_01 (x0 : Int) (a1 : Option Addr) (n1 c1 : Nat) : Tryz.prog.built 60 [(0, (.int .i64 x0)), (1, (.slice a1 n1 c1))] = some #[(.int .i64 x0), (.slice a1 n1 c1)] := by kernel_rfl
theorem bs24_0  : builtSl Tryz.prog 24 0 [] = some #[] := by kernel_rfl
theorem bs24_1 (a0 : Option Addr) (n0 c0 : Nat) : builtSl Tryz.prog 24 1 [(0, (.slice a0 n0 c0))] = some #[(.slice a0 n0 c0)] := by kernel_rfl
theorem bs24_2 (a0 : Option Addr) (n0 c0 : Nat) (a1 : Option Addr) (n1 c1 : Nat) : builtSl Tryz.prog 24 2 [(0, (.slice a0 n0 c0)), (1, (.slice a1 n1 c1))] = some #[(.slice a0 n0 c0), (.slice a1 n1 c1)] := by kernel_rfl
theorem bs24_3 (a0 : Option Addr) (n0 c0 : Nat) (a1 : Option Addr) (n1 c1 : Nat) (a2 : Option Addr) (n2 c2 : Nat) : builtSl Tryz.prog 24 3 [(0, (.slice a0 n0 c0)), (1, (.slice a1 n1 c1)), (2, (.slice a2 n2 c2))] = some #[(.slice a0 n0 c0), (.slice a1 n1 c1), (.slice a2 n2 c2)] := by kernel_rfl
theorem bs24_4 (a0 : Option Addr) (n0 c0 : Nat) (a1 : Option Addr) (n1 c1 : Nat) (a2 : Option Addr) (n2 c2 : Nat) (a3 : Option Addr) (n3 c3 : Nat) : builtSl Tryz.prog 24 4 [(0, (.slice a0 n0 c0)), (1, (.slice a1 n1 c1)), (2, (.slice a2 n2 c2)), (3, (.slice a3 n3 c3))] = some #[(.slice a0 n0 c0), (.slice a1 n1 c1), (.slice a2 n2 c2), (.slice a3 n3 c3)] := by kernel_rfl
theorem bs24_5 (a0 : Option Addr) (n0 c0 : Nat) (a1 : Option Addr) (n1 c1 : Nat) (a2 : Option Addr) (n2 c2 : Nat) (a3 : Option Addr) (n3 c3 : Nat) (a4 : Option Addr) (n4 c4 : Nat) : builtSl Tryz.prog 24 5 [(0, (.slice a0 n0 c0)), (1, (.slice a1 n1 c1)), (2, (.slice a2 n2 c2)), (3, (.slice a3 n3 c3)), (4, (.slice a4 n4 c4))] = some #[(.slice a0 n0 c0), (.slice a1 n1 c1), (.slice a2 n2 c2), (.slice a3 n3 c3), (.slice a4 n4 c4)] := by kernel_rfl
theorem bs24_6 (a0 : Option Addr) (n0 c0 : Nat) (a1 : Option Addr) (n1 c1 : Nat) (a2 : Option Addr) (n2 c2 : Nat) (a3 : Option Addr) (n3 c3 : Nat) (a4 : Option Addr) (n4 c4 : Nat) (a5 : Option Addr) (n5 c5 : Nat) : builtSl Tryz.prog 24 6 [(0, (.slice a0 n0 c0)), (1, (.slice a1 n1 c1)), (2, (.slice a2 n2 c2)), (3, (.slice a3 n3 c3)), (4, (.slice a4 n4 c4)), (5, (.slice a5 n5 c5))] = some #[(.slice a0 n0 c0), (.slice a1 n1 c1), (.slice a2 n2 c2), (.slice a3 n3 c3), (.slice a4 n4 c4), (.slice a5 n5 c5)] := by kernel_rfl
theorem bs72_0  : builtSl Tryz.prog 72 0 [] = some #[] := by kernel_rfl
theorem bs72_1 (v0_0 v0_1 : Value) : builtSl Tryz.prog 72 1 [(0, (.agg #[v0_0, v0_1]))] = some #[v0_0, v0_1] := by kernel_rfl
theorem bs72_2 (v0_0 v0_1 : Value) (v1_0 v1_1 : Value) : builtSl Tryz.prog 72 2 [(0, (.agg #[v0_0, v0_1])), (1, (.agg #[v1_0, v1_1]))] = some #[v0_0, v0_1, v1_0, v1_1] := by kernel_rfl
theorem bs72_3 (v0_0 v0_1 : Value) (v1_0 v1_1 : Value) (v2_0 v2_1 : Value) : builtSl Tryz.prog 72 3 [(0, (.agg #[v0_0, v0_1])), (1, (.agg #[v1_0, v1_1])), (2, (.agg #[v2_0, v2_1]))] = some #[v0_0, v0_1, v1_0, v1_1, v2_0, v2_1] := by kernel_rfl
theorem bs72_4 (v0_0 v0_1 : Value) (v1_0 v1_1 : Value) (v2_0 v2_1 : Value) (v3_0 v3_1 : Value) : builtSl Tryz.prog 72 4 [(0, (.agg #[v0_0, v0_1])), (1, (.agg #[v1_0, v1_1])), (2, (.agg #[v2_0, v2_1])), (3, (.agg #[v3_0, v3_1]))] = some #[v0_0, v0_1, v1_0, v1_1, v2_0, v2_1, v3_0, v3_1] := by kernel_rfl
theorem bs72_5 (v0_0 v0_1 : Value) (v1_0 v1_1 : Value) (v2_0 v2_1 : Value) (v3_0 v3_1 : Value) (v4_0 v4_1 : Value) : builtSl Tryz.prog 72 5 [(0, (.agg #[v0_0, v0_1])), (1, (.agg #[v1_0, v1_1])), (2, (.agg #[v2_0, v2_1])), (3, (.agg #[v3_0, v3_1])), (4, (.agg #[v4_0, v4_1]))] = some #[v0_0, v0_1, v1_0, v1_1, v2_0, v2_1, v3_0, v3_1, v4_0, v4_1] := by kernel_rfl
theorem bs72_6 (v0_0 v0_1 : Value) (v1_0 v1_1 : Value) (v2_0 v2_1 : Value) (v3_0 v3_1 : Value) (v4_0 v4_1 : Value) (v5_0 v5_1 : Value) : builtSl Tryz.prog 72 6 [(0, (.agg #[v0_0, v0_1])), (1, (.agg #[v1_0, v1_1])), (2, (.agg #[v2_0, v2_1])), (3, (.agg #[v3_0, v3_1])), (4, (.agg #[v4_0, v4_1])), (5, (.agg #[v5_0, v5_1]))] = some #[v0_0, v0_1, v1_0, v1_1, v2_0, v2_1, v3_0, v3_1, v4_0, v4_1, v5_0, v5_1] := by kernel_rfl
theorem bt72_  : Tryz.prog.built 72 [] = some #[(.int .i64 0), (.int .i64 0)] := by kernel_rfl
theorem bt72_0 (x0 : Int) : Tryz.prog.built 72 [(0, (.int .i64 x0))] = some #[(.int .i64 x0), (.int .i64 0)] := by kernel_rfl
theorem bt72_1 (x1 : Int) : Tryz.prog.built 72 [(1, (.int .i64 x1))] = some #[(.int .i64 0), (.int .i64 x1)] := by kernel_rfl
theorem bt72_01 (x0 : Int) (x1 : Int) : Tryz.prog.built 72 [(0, (.int .i64 x0)), (1, (.int .i64 x1))] = some #[(.int .i64 x0), (.int .i64 x1)] := by kernel_rfl
theorem bs2_0  : builtSl Tryz.prog 2 0 [] = some #[] := by kernel_rfl
theorem bs2_1 (x0 : Int) : builtSl Tryz.prog 2 1 [(0, (.int .i64 x0))] = some #[(.int .i64 x0)] := by kernel_rfl
theorem bs2_2 (x0 : Int) (x1 : Int) : builtSl Tryz.prog 2 2 [(0, (.int .i64 x0)), (1, (.int .i64 x1))] = some #[(.int .i64 x0), (.int .i64 x1)] := by kernel_rfl
theorem bs2_3 (x0 : Int) (x1 : Int) (x2 : Int) : builtSl Tryz.prog 2 3 [(0, (.int .i64 x0)), (1, (.int .i64 x1)), (2, (.int .i64 x2))] = some #[(.int .i64 x0), (.int .i64 x1), (.int .i64 x2)] := by kernel_rfl
theorem bs2_4 (x0 : Int) (x1 : Int) (x2 : Int) (x3 : Int) : builtSl Tryz.prog 2 4 [(0, (.int .i64 x0)), (1, (.int .i64 x1)), (2, (.int .i64 x2)), (3, (.int .i64 x3))] = some #[(.int .i64 x0), (.int .i64 x1), (.int .i64 x2), (.int .i64 x3)] := by kernel_rfl
theorem bs2_5 (x0 : Int) (x1 : Int) (x2 : Int) (x3 : Int) (x4 : Int) : builtSl Tryz.prog 2 5 [(0, (.int .i64 x0)), (1, (.int .i64 x1)), (2, (.int .i64 x2)), (3, (.int .i64 x3)), (4, (.int .i64 x4))] = some #[(.int .i64 x0), (.int .i64 x1), (.int .i64 x2), (.int .i64 x3), (.int .i64 x4)] := by kernel_rfl
theorem bs2_6 (x0 : Int) (x1 : Int) (x2 : Int) (x3 : Int) (x4 : Int) (x5 : Int) : builtSl Tryz.prog 2 6 [(0, (.int .i64 x0)), (1, (.int .i64 x1)), (2, (.int .i64 x2)), (3, (.int .i64 x3)), (4, (.int .i64 x4)), (5, (.int .i64 x5))] = some #[(.int .i64 x0), (.int .i64 x1), (.int .i64 x2), (.int .i64 x3), (.int .i64 x4), (.int .i64 x5)] := by kernel_rfl
theorem bs4_0  : builtSl Tryz.prog 4 0 [] = some #[] := by kernel_rfl
theorem bs4_1 (x0 : Bool) : builtSl Tryz.prog 4 1 [(0, (.bool x0))] = some #[(.bool x0)] := by kernel_rfl
theorem bs4_2 (x0 : Bool) (x1 : Bool) : builtSl Tryz.prog 4 2 [(0, (.bool x0)), (1, (.bool x1))] = some #[(.bool x0), (.bool x1)] := by kernel_rfl
theorem bs4_3 (x0 : Bool) (x1 : Bool) (x2 : Bool) : builtSl Tryz.prog 4 3 [(0, (.bool x0)), (1, (.bool x1)), (2, (.bool x2))] = some #[(.bool x0), (.bool x1), (.bool x2)] := by kernel_rfl
theorem bs4_4 (x0 : Bool) (x1 : Bool) (x2 : Bool) (x3 : Bool) : builtSl Tryz.prog 4 4 [(0, (.bool x0)), (1, (.bool x1)), (2, (.bool x2)), (3, (.bool x3))] = some #[(.bool x0), (.bool x1), (.bool x2), (.bool x3)] := by kernel_rfl
theorem bs4_5 (x0 : Bool) (x1 : Bool) (x2 : Bool) (x3 : Bool) (x4 : Bool) : builtSl Tryz.prog 4 5 [(0, (.bool x0)), (1, (.bool x1)), (2, (.bool x2)), (3, (.bool x3)), (4, (.bool x4))] = some #[(.bool x0), (.bool x1), (.bool x2), (.bool x3), (.bool x4)] := by kernel_rfl
theorem bs4_6 (x0 : Bool) (x1 : Bool) (x2 : Bool) (x3 : Bool) (x4 : Bool) (x5 : Bool) : builtSl Tryz.prog 4 6 [(0, (.bool x0)), (1, (.bool x1)), (2, (.bool x2)), (3, (.bool x3)), (4, (.bool x4)), (5, (.bool x5))] = some #[(.bool x0), (.bool x1), (.bool x2), (.bool x3), (.bool x4), (.bool x5)] := by kernel_rfl
theorem bs9_0  : builtSl Tryz.prog 9 0 [] = some #[] := by kernel_rfl
theorem bs9_1 (x0 : ByteArray) : builtSl Tryz.prog 9 1 [(0, (.string x0))] = some #[(.string x0)] := by kernel_rfl
theorem bs9_2 (x0 : ByteArray) (x1 : ByteArray) : builtSl Tryz.prog 9 2 [(0, (.string x0)), (1, (.string x1))] = some #[(.string x0), (.string x1)] := by kernel_rfl
theorem bs9_3 (x0 : ByteArray) (x1 : ByteArray) (x2 : ByteArray) : builtSl Tryz.prog 9 3 [(0, (.string x0)), (1, (.string x1)), (2, (.string x2))] = some #[(.string x0), (.string x1), (.string x2)] := by kernel_rfl
theorem bs9_4 (x0 : ByteArray) (x1 : ByteArray) (x2 : ByteArray) (x3 : ByteArray) : builtSl Tryz.prog 9 4 [(0, (.string x0)), (1, (.string x1)), (2, (.string x2)), (3, (.string x3))] = some #[(.string x0), (.string x1), (.string x2), (.string x3)] := by kernel_rfl
theorem bs9_5 (x0 : ByteArray) (x1 : ByteArray) (x2 : ByteArray) (x3 : ByteArray) (x4 : ByteArray) : builtSl Tryz.prog 9 5 [(0, (.string x0)), (1, (.string x1)), (2, (.string x2)), (3, (.string x3)), (4, (.string x4))] = some #[(.string x0), (.string x1), (.string x2), (.string x3), (.string x4)] := by kernel_rfl
theorem bs9_6 (x0 : ByteArray) (x1 : ByteArray) (x2 : ByteArray) (x3 : ByteArray) (x4 : ByteArray) (x5 : ByteArray) : builtSl Tryz.prog 9 6 [(0, (.string x0)), (1, (.string x1)), (2, (.string x2)), (3, (.string x3)), (4, (.string x4)), (5, (.string x5))] = some #[(.string x0), (.string x1), (.string x2), (.string x3), (.string x4), (.string x5)] := by kernel_rfl
theorem bt142_  : Tryz.prog.built 142 [] = some #[(.pointer none), (.pointer none), (.pointer none), (.string ⟨#[]⟩)] := by kernel_rfl
theorem bt142_0 (x0 : Option Addr) : Tryz.prog.built 142 [(0, (.pointer x0))] = some #[(.pointer x0), (.pointer none), (.pointer none), (.string ⟨#[]⟩)] := by kernel_rfl
theorem bt142_1 (x1 : Option Addr) : Tryz.prog.built 142 [(1, (.pointer x1))] = some #[(.pointer none), (.pointer x1), (.pointer none), (.string ⟨#[]⟩)] := by kernel_rfl
theorem bt142_2 (x2 : Option Addr) : Tryz.prog.built 142 [(2, (.pointer x2))] = some #[(.pointer none), (.pointer none), (.pointer x2), (.string ⟨#[]⟩)] := by kernel_rfl
theorem bt142_3 (x3 : ByteArray) : Tryz.prog.built 142 [(3, (.string x3))] = some #[(.pointer none), (.pointer none), (.pointer none), (.string x3)] := by kernel_rfl
theorem bt142_01 (x0 : Option Addr) (x1 : Option Addr) : Tryz.prog.built 142 [(0, (.pointer x0)), (1, (.pointer x1))] = some #[(.pointer x0), (.pointer x1), (.pointer none), (.string ⟨#[]⟩)] := by kernel_rfl
theorem bt142_02 (x0 : Option Addr) (x2 : Option Addr) : Tryz.prog.built 142 [(0, (.pointer x0)), (2, (.pointer x2))] = some #[(.pointer x0), (.pointer none), (.pointer x2), (.string ⟨#[]⟩)] := by kernel_rfl
theorem bt142_03 (x0 : Option Addr) (x3 : ByteArray) : Tryz.prog.built 142 [(0, (.pointer x0)), (3, (.string x3))] = some #[(.pointer x0), (.pointer none), (.pointer none), (.string x3)] := by kernel_rfl
theorem bt142_12 (x1 : Option Addr) (x2 : Option Addr) : Tryz.prog.built 142 [(1, (.pointer x1)), (2, (.pointer x2))] = some #[(.pointer none), (.pointer x1), (.pointer x2), (.string ⟨#[]⟩)] := by kernel_rfl
theorem bt142_13 (x1 : Option Addr) (x3 : ByteArray) : Tryz.prog.built 142 [(1, (.pointer x1)), (3, (.string x3))] = some #[(.pointer none), (.pointer x1), (.pointer none), (.string x3)] := by kernel_rfl
theorem bt142_23 (x2 : Option Addr) (x3 : ByteArray) : Tryz.prog.built 142 [(2, (.pointer x2)), (3, (.string x3))] = some #[(.pointer none), (.pointer none), (.pointer x2), (.string x3)] := by kernel_rfl
theorem bt142_012 (x0 : Option Addr) (x1 : Option Addr) (x2 : Option Addr) : Tryz.prog.built 142 [(0, (.pointer x0)), (1, (.pointer x1)), (2, (.pointer x2))] = some #[(.pointer x0), (.pointer x1), (.pointer x2), (.string ⟨#[]⟩)] := by kernel_rfl
theorem bt142_013 (x0 : Option Addr) (x1 : Option Addr) (x3 : ByteArray) : Tryz.prog.built 142 [(0, (.pointer x0)), (1, (.pointer x1)), (3, (.string x3))] = some #[(.pointer x0), (.pointer x1), (.pointer none), (.string x3)] := by kernel_rfl
theorem bt142_023 (x0 : Option Addr) (x2 : Option Addr) (x3 : ByteArray) : Tryz.prog.built 142 [(0, (.pointer x0)), (2, (.pointer x2)), (3, (.string x3))] = some #[(.pointer x0), (.pointer none), (.pointer x2), (.string x3)] := by kernel_rfl
theorem bt142_123 (x1 : Option Addr) (x2 : Option Addr) (x3 : ByteArray) : Tryz.prog.built 142 [(1, (.pointer x1)), (2, (.pointer x2)), (3, (.string x3))] = some #[(.pointer none), (.pointer x1), (.pointer x2), (.string x3)] := by kernel_rfl
theorem bt142_0123 (x0 : Option Addr) (x1 : Option Addr) (x2 : Option Addr) (x3 : ByteArray) : Tryz.prog.built 142 [(0, (.pointer x0)), (1, (.pointer x1)), (2, (.pointer x2)), (3, (.string x3))] = some #[(.pointer x0), (.pointer x1), (.pointer x2), (.string x3)] := by kernel_rfl
theorem bt143_  : Tryz.prog.built 143 [] = some #[(.pointer none), (.pointer none), (.pointer none), (.string ⟨#[]⟩)] := by kernel_rfl
theorem bt143_0 (x0 : Option Addr) : Tryz.prog.built 143 [(0, (.pointer x0))] = some #[(.pointer x0), (.pointer none), (.pointer none), (.string ⟨#[]⟩)] := by kernel_rfl
theorem bt143_1 (x1 : Option Addr) : Tryz.prog.built 143 [(1, (.pointer x1))] = some #[(.pointer none), (.pointer x1), (.pointer none), (.string ⟨#[]⟩)] := by kernel_rfl
theorem bt143_2 (x2 : Option Addr) : Tryz.prog.built 143 [(2, (.pointer x2))] = some #[(.pointer none), (.pointer none), (.pointer x2), (.string ⟨#[]⟩)] := by kernel_rfl
theorem bt143_3 (x3 : ByteArray) : Tryz.prog.built 143 [(3, (.string x3))] = some #[(.pointer none), (.pointer none), (.pointer none), (.string x3)] := by kernel_rfl
theorem bt143_01 (x0 : Option Addr) (x1 : Option Addr) : Tryz.prog.built 143 [(0, (.pointer x0)), (1, (.pointer x1))] = some #[(.pointer x0), (.pointer x1), (.pointer none), (.string ⟨#[]⟩)] := by kernel_rfl
theorem bt143_02 (x0 : Option Addr) (x2 : Option Addr) : Tryz.prog.built 143 [(0, (.pointer x0)), (2, (.pointer x2))] = some #[(.pointer x0), (.pointer none), (.pointer x2), (.string ⟨#[]⟩)] := by kernel_rfl
theorem bt143_03 (x0 : Option Addr) (x3 : ByteArray) : Tryz.prog.built 143 [(0, (.pointer x0)), (3, (.string x3))] = some #[(.pointer x0), (.pointer none), (.pointer none), (.string x3)] := by kernel_rfl
theorem bt143_12 (x1 : Option Addr) (x2 : Option Addr) : Tryz.prog.built 143 [(1, (.pointer x1)), (2, (.pointer x2))] = some #[(.pointer none), (.pointer x1), (.pointer x2), (.string ⟨#[]⟩)] := by kernel_rfl
theorem bt143_13 (x1 : Option Addr) (x3 : ByteArray) : Tryz.prog.built 143 [(1, (.pointer x1)), (3, (.string x3))] = some #[(.pointer none), (.pointer x1), (.pointer none), (.string x3)] := by kernel_rfl
theorem bt143_23 (x2 : Option Addr) (x3 : ByteArray) : Tryz.prog.built 143 [(2, (.pointer x2)), (3, (.string x3))] = some #[(.pointer none), (.pointer none), (.pointer x2), (.string x3)] := by kernel_rfl
theorem bt143_012 (x0 : Option Addr) (x1 : Option Addr) (x2 : Option Addr) : Tryz.prog.built 143 [(0, (.pointer x0)), (1, (.pointer x1)), (2, (.pointer x2))] = some #[(.pointer x0), (.pointer x1), (.pointer x2), (.string ⟨#[]⟩)] := by kernel_rfl
theorem bt143_013 (x0 : Option Addr) (x1 : Option Addr) (x3 : ByteArray) : Tryz.prog.built 143 [(0, (.pointer x0)), (1, (.pointer x1)), (3, (.string x3))] = some #[(.pointer x0), (.pointer x1), (.pointer none), (.string x3)] := by kernel_rfl
theorem bt143_023 (x0 : Option Addr) (x2 : Option Addr) (x3 : ByteArray) : Tryz.prog.built 143 [(0, (.pointer x0)), (2, (.pointer x2)), (3, (.string x3))] = some #[(.pointer x0), (.pointer none), (.pointer x2), (.string x3)] := by kernel_rfl
theorem bt143_123 (x1 : Option Addr) (x2 : Option Addr) (x3 : ByteArray) : Tryz.prog.built 143 [(1, (.pointer x1)), (2, (.pointer x2)), (3, (.string x3))] = some #[(.pointer none), (.pointer x1), (.pointer x2), (.string x3)] := by kernel_rfl
theorem bt143_0123 (x0 : Option Addr) (x1 : Option Addr) (x2 : Option Addr) (x3 : ByteArray) : Tryz.prog.built 143 [(0, (.pointer x0)), (1, (.pointer x1)), (2, (.pointer x2)), (3, (.string x3))] = some #[(.pointer x0), (.pointer x1), (.pointer x2), (.string x3)] := by kernel_rfl
theorem bt145_  : Tryz.prog.built 145 [] = some #[] := by kernel_rfl
theorem bt146_  : Tryz.prog.built 146 [] = some #[] := by kernel_rfl
attribute [go_sem] bt7_ bt7_0 bt7_1 bt7_2 bt7_3 bt7_01 bt7_02 bt7_03 bt7_12 bt7_13 bt7_23 bt7_012 bt7_013 bt7_023 bt7_123 bt7_0123 bt8_ bt8_0 bt8_1 bt8_2 bt8_3 bt8_01 bt8_02 bt8_03 bt8_12 bt8_13 bt8_23 bt8_012 bt8_013 bt8_023 bt8_123 bt8_0123 bt13_ bt13_0 bt13_1 bt13_01 bt14_ bt14_0 bt14_1 bt14_01 bt18_ bt18_0 bt19_ bt19_0 bs5_0 bs5_1 bs5_2 bs5_3 bs5_4 bs5_5 bs5_6 bs36_0 bs36_1 bs36_2 bs36_3 bs36_4 bs36_5 bs36_6 bt25_ bt25_0 bt25_1 bt25_2 bt25_01 bt25_02 bt25_12 bt25_012 bt26_ bt26_0 bt26_1 bt26_2 bt26_01 bt26_02 bt26_12 bt26_012 bs26_0 bs26_1 bs26_2 bs26_3 bs26_4 bs26_5 bs26_6 bt35_ bt35_0 bt35_1 bt35_2 bt35_01 bt35_02 bt35_12 bt35_012 bt36_ bt36_0 bt36_1 bt36_2 bt36_01 bt36_02 bt36_12 bt36_012 bt52_ bt52_0 bt52_1 bt52_2 bt52_01 bt52_02 bt52_12 bt52_012 bt53_ bt53_0 bt53_1 bt53_2 bt53_01 bt53_02 bt53_12 bt53_012 bt59_ bt59_0 bt59_1 bt59_01 bt60_ bt60_0 bt60_1 bt60_01 bs24_0 bs24_1 bs24_2 bs24_3 bs24_4 bs24_5 bs24_6 bs72_0 bs72_1 bs72_2 bs72_3 bs72_4 bs72_5 bs72_6 bt72_ bt72_0 bt72_1 bt72_01 bs2_0 bs2_1 bs2_2 bs2_3 bs2_4 bs2_5 bs2_6 bs4_0 bs4_1 bs4_2 bs4_3 bs4_4 bs4_5 bs4_6 bs9_0 bs9_1 bs9_2 bs9_3 bs9_4 bs9_5 bs9_6 bt142_ bt142_0 bt142_1 bt142_2 bt142_3 bt142_01 bt142_02 bt142_03 bt142_12 bt142_13 bt142_23 bt142_012 bt142_013 bt142_023 bt142_123 bt142_0123 bt143_ bt143_0 bt143_1 bt143_2 bt143_3 bt143_01 bt143_02 bt143_03 bt143_12 bt143_13 bt143_23 bt143_012 bt143_013 bt143_023 bt143_123 bt143_0123 bt145_ bt146_
attribute [go_sem] ti2 zok2 Tryz.underlying2 ti3 zok3 Tryz.underlying3 ti4 zok4 Tryz.underlying4 ti5 zok5 Tryz.underlying5 ti6 zok6 Tryz.underlying6 ti7 zok7 Tryz.underlying7 ti8 zok8 Tryz.underlying8 ti9 zok9 Tryz.underlying9 ti10 zok10 Tryz.underlying10 ti11 zok11 Tryz.underlying11 ti12 zok12 Tryz.underlying12 ti13 zok13 Tryz.underlying13 ti14 zok14 Tryz.underlying14 ti15 zok15 Tryz.underlying15 ti16 zok16 Tryz.underlying16 ti17 zok17 Tryz.underlying17 ti18 zok18 Tryz.underlying18 ti19 zok19 Tryz.underlying19 ti21 zok21 Tryz.underlying21 ti22 zok22 Tryz.underlying22 ti24 zok24 Tryz.underlying24 ti25 zok25 Tryz.underlying25 ti26 zok26 Tryz.underlying26 ti28 zok28 Tryz.underlying28 ti35 zok35 Tryz.underlying35 ti36 zok36 Tryz.underlying36 ti38 zok38 Tryz.underlying38 ti51 zok51 Tryz.underlying51 ti52 zok52 Tryz.underlying52 ti53 zok53 Tryz.underlying53 ti59 zok59 Tryz.underlying59 ti60 zok60 Tryz.underlying60 ti62 zok62 Tryz.underlying62 ti67 zok67 Tryz.underlying67 ti71 zok71 Tryz.underlying71 ti72 zok72 Tryz.underlying72 ti80 zok80 Tryz.underlying80 ti81 zok81 Tryz.underlying81 ti89 zok89 Tryz.underlying89 ti98 zok98 Tryz.underlying98 ti111 zok111 Tryz.underlying111 ti113 zok113 Tryz.underlying113 ti114 zok114 Tryz.underlying114 ti122 zok122 Tryz.underlying122 ti130 zok130 Tryz.underlying130 ti132 zok132 Tryz.underlying132 ti136 zok136 Tryz.underlying136 ti138 zok138 Tryz.underlying138 ti142 zok142 Tryz.underlying142 ti143 zok143 Tryz.underlying143 ti144 zok144 Tryz.underlying144 ti145 zok145 Tryz.underlying145 ti146 zok146 Tryz.underlying146 ti148 zok148 Tryz.underlying148 ti149 zok149 Tryz.underlying149 ti151 zok151 Tryz.underlying151 ti152 zok152 Tryz.underlying152 ti153 zok153 Tryz.underlying153 ti154 zok154 Tryz.underlying154 ti155 zok155 Tryz.underlying155
end Go.Proofs.YtkimaohcmcfcnaaGreat
end

section
namespace Go.Proofs.YtkimaohcmcfcnaaGreat
open Go.Ab
theorem own : ownKnob Tryz.prog.godebug = none := by kernel_rfl
theorem laidOut : laidOutB Tryz.prog = true := by kernel_rfl
theorem mixed : Tryz.prog.follows .mixedOrders = true := by kernel_rfl
theorem head_io : Tryz.prog.initOrder = "harness" ++ (" " ++ ("2b7fee27d0f3e398729ec89c9c0c7089bb787047fff8b4f6066860649e531a09" ++ (" " ++ ("cut" ++ (" " ++ ("at" ++ (" " ++ "loop.example/g01355/laws.FnTradeParts"))))))) := by kernel_rfl
theorem head_ws : behindMainWord (wordsSigns Tryz.prog.initOrder.toList) = "cut".toList :: "at".toList :: wordsSigns "loop.example/g01355/laws.FnTradeParts".toList :=
  cut_words head_io (by kernel_rfl) (by kernel_rfl) (by kernel_rfl) (by kernel_rfl) (by kernel_rfl) (by kernel_rfl)
theorem mkFact : Tryz.prog.make = some .cut := make_of head_ws (by kernel_rfl) (by kernel_rfl)
theorem liftFact : Tryz.prog.liftsFinal = false := liftsFinal_of head_ws
theorem enterFact : Tryz.prog.mayEnter = true := mayEnter_of head_ws (by kernel_rfl) (by kernel_rfl) (by kernel_rfl)
theorem rowedFact : mapsRowed Tryz.prog = true := by kernel_rfl
theorem heardFact : Tryz.prog.stopsHeard = true := by kernel_rfl
end Go.Proofs.YtkimaohcmcfcnaaGreat
end

section
namespace Go.Ab

def Same (S : Nat -> Prop) (H H' : Heap) : Prop := H.length <= H'.length /\ ∀ j, j < H.length -> ¬ S j -> H'[j]? = H[j]?

theorem Same.refl (S : Nat -> Prop) (H : Heap) : Same S H H := ⟨Nat.le_refl _, fun _ _ _ => rfl⟩
theorem Same.trans {S : Nat -> Prop} {H H' H'' : Heap} (h : Same S H H') (h' : Same S H' H'') : Same S H H'' :=
  ⟨Nat.le_trans h.1 h'.1, fun j hj hs => (h'.2 j (Nat.lt_of_lt_of_le hj h.1) hs).trans (h.2 j hj hs)⟩
theorem Same.mono {S T : Nat -> Prop} {H H' : Heap} (h : Same S H H') (hst : ∀ j, j < H.length -> S j -> T j) : Same T H H' :=
  ⟨h.1, fun j hj hs => h.2 j hj fun hS => hs (hst j hj hS)⟩
theorem Same.of_prefix {S : Nat -> Prop} {H H' : Heap} (h : H <+: H') : Same S H H' := by
  obtain ⟨t, rfl⟩ := h
  exact ⟨by simp, fun j hj _ => List.getElem?_append_left hj⟩
theorem Same.prefix {S : Nat -> Prop} {H H' : Heap} (h : Same S H H') (hs : ∀ j, j < H.length -> ¬ S j) : H <+: H' := by
  rw [List.prefix_iff_eq_take]
  apply List.ext_getElem?
  intro j
  by_cases hj : j < H.length
  · rw [List.getElem?_take, if_pos hj, h.2 j hj (hs j hj)]
  · rw [List.getElem?_take, if_neg hj, List.getElem?_eq_none (by omega)]
theorem Same.get {S : Nat -> Prop} {H H' : Heap} (h : Same S H H') {j : Nat} {b : Blk} (hb : H[j]? = some b) (hs : ¬ S j) : H'[j]? = some b := by
  rw [h.2 j (List.getElem?_eq_some_iff.1 hb).1 hs]; exact hb

theorem pget {H H' : Heap} (hp : H <+: H') {j : Nat} {b : Blk} (hb : H[j]? = some b) : H'[j]? = some b := Same.get (S := fun _ => False) (Same.of_prefix hp) hb (fun h => h)
def OL (e : Nat) (H : Heap) (id : Nat) (cs : List Value) (n : Nat) : Prop :=
  cs.length = n * e /\ ((n = 0 /\ ghostAt H id = true) \/ H[id]? = some ⟨cs, true, true⟩)

theorem OL.lt {e : Nat} {H : Heap} {id : Nat} {cs : List Value} {n : Nat} (h : OL e H id cs n) : id < H.length := by
  rcases h.2 with ⟨_, h⟩ | h
  · obtain ⟨b, hb, _⟩ := ghostAt_inv h
    exact (List.getElem?_eq_some_iff.1 hb).1
  · exact (List.getElem?_eq_some_iff.1 h).1

theorem OL.at {e : Nat} {H : Heap} {id : Nat} {cs : List Value} {n : Nat} (h : OL e H id cs n) : At H id 0 cs := by
  rcases h.2 with ⟨h0, _⟩ | h'
  · left; subst h0; exact List.eq_nil_of_length_eq_zero (by simpa using h.1)
  · exact Holds.at ⟨true, h'⟩

theorem OL.ghost (e : Nat) (H : Heap) : OL e (H ++ [⟨[], false, false⟩]) H.length [] 0 :=
  ⟨by simp, .inl ⟨rfl, by simp [ghostAt]⟩⟩

theorem OL.keep {e : Nat} {H H' : Heap} {id : Nat} {cs : List Value} {n : Nat} (h : OL e H id cs n) {S : Nat -> Prop} (hs : Same S H H') (hi : ¬ S id) : OL e H' id cs n := by
  refine ⟨h.1, ?_⟩
  rcases h.2 with ⟨h0, h'⟩ | h'
  · left
    obtain ⟨b, hb, h1, h2⟩ := ghostAt_inv h'
    refine ⟨h0, ?_⟩
    have := hs.get hb hi
    simp [ghostAt, this, h1, h2]
  · right; exact hs.get h' hi

theorem OL.append {e : Nat} {H : Heap} {id : Nat} {cs : List Value} {n : Nat} (h : OL e H id cs n) (he : 0 < e) {m : Nat} (hm : 0 < m) {news : List Value} (hn : news.length = m * e) :
    ∃ H', appendH H e (lv e id 0 n) m news = some (lv e H.length 0 (n + m), H') /\ OL e H' H.length (cs ++ news) (n + m) /\ Same (fun j => j = id) H H' /\ H'.length = H.length + 1 := by
  rcases h.2 with ⟨h0, hg⟩ | hb
  · subst h0
    have : cs = [] := List.eq_nil_of_length_eq_zero (by simpa using h.1)
    subst this
    refine ⟨H ++ [⟨news, true, true⟩], ?_, ⟨by simpa using hn, .inr (by simp)⟩, Same.of_prefix (List.prefix_append _ _), by simp⟩
    simp [appendH, show ¬ m = 0 by omega, he, hg]
  · have hc : cellsAt H id 0 (n * e) = some cs := by rw [<- h.1, cellsAt_of hb rfl (by simp)]; simp
    have hown : ownAt H id = true := by simp [ownAt, hb]
    have hng : ghostAt H id = false := by simp [ghostAt, hb]
    refine ⟨H.kill id ++ [⟨cs ++ news, true, true⟩], ?_, ⟨by simp [h.1, hn, Nat.add_mul], .inr (by rw [List.getElem?_append_right (by rw [Heap.kill_length]; exact Nat.le_refl _), Heap.kill_length]; simp)⟩, ⟨by simp [Heap.kill_length], fun j hj hs => ?_⟩, by simp [Heap.kill_length]⟩
    · simp [appendH, show ¬ m = 0 by omega, hown, hng, hc]
    · rw [List.getElem?_append_left (by rw [Heap.kill_length]; exact hj)]
      unfold Heap.kill
      rw [hb]
      exact List.getElem?_set_ne (fun e => hs e.symm)

theorem OL.push {e : Nat} {H : Heap} {id : Nat} {cs : List Value} {n : Nat} (h : OL e H id cs n) (he : 0 < e) {xs : List Value} (hx : xs.length = e) :
    cellsAt (H ++ [⟨xs, true, true⟩]) H.length 0 e = some xs /\ ∃ H', appendH (H ++ [⟨xs, true, true⟩]) e (lv e id 0 n) 1 xs = some (lv e (H.length + 1) 0 (n + 1), H') /\ OL e H' (H.length + 1) (cs ++ xs) (n + 1) /\ Same (fun j => j = id) H H' /\ H'.length = H.length + 2 := by
  have hid := h.lt
  have hk : OL e (H ++ [⟨xs, true, true⟩]) id cs n := h.keep (S := fun _ => False) (Same.of_prefix (List.prefix_append _ _)) (fun hh => hh)
  obtain ⟨H', h1, h2, h3, h4⟩ := hk.append he (m := 1) (by omega) (news := xs) (by simpa using hx)
  refine ⟨?_, H', by simpa using h1, by simpa using h2, ?_, by simpa using h4⟩
  · rw [cellsAt_of (b := ⟨xs, true, true⟩) (by simp) rfl (by simp [hx])]
    simp [<- hx]
  · exact (Same.of_prefix (S := fun j => j = id) (List.prefix_append H [⟨xs, true, true⟩])).trans h3

theorem Up.tuple {H : Heap} {xs ys : Array Value} (h : Ups H xs.toList ys.toList) : Up H (.tuple xs) (.tuple ys) := by
  intro B w0 ρ w cv hR hv
  obtain ⟨zs, rfl, hz⟩ := hv.tuple_inv
  exact VR.tuple_of (h.vrs hR hz)

theorem ACalls.res {P : Program} {f : FuncId} {args : List Value} {H : Heap} {Post : Value -> Heap -> Prop} (h : ACalls P f args H fun v H' => ∃ v', Up H' v v' /\ Post v' H') : ACalls P f args H Post :=
  ⟨h.1, fun B w0 ρ w cargs hR hv => (h.2 B w0 ρ w cargs hR hv).mono fun e w' hp => by
    obtain ⟨ρ', H', v, cv, h1, h2, h3, h4, v', h5, h6⟩ := hp
    exact ⟨ρ', H', v', cv, h1, h2, h3, h5 _ _ _ _ _ h3 h4, h6⟩⟩

theorem ACalls.addGhost {P : Program} {f : FuncId} {args : List Value} {H : Heap} {Post : Value -> Heap -> Prop} (h : ACalls P f args (H ++ [⟨[], false, false⟩]) Post) : ACalls P f args H Post :=
  ⟨h.1, fun B w0 ρ w cargs hR hv => (h.2 B w0 _ w cargs hR.addGhost (hv.mono (List.prefix_append _ _))).mono fun e w' hp => by
    obtain ⟨ρ', H', v, cv, h1, h2, h3⟩ := hp
    exact ⟨ρ', H', v, cv, h1, (List.prefix_append _ _).trans h2, h3⟩⟩

def upFrom (k : Int) (n : Nat) : List Int := (List.range n).map fun j : Nat => k + (j : Int)

def off (xss : List (List Int)) (s : Nat) : Nat := (xss.take s).flatten.length

def marked : Int -> List (List Int) -> List (List Int)
  | _, [] => []
  | k, xs :: xss => upFrom k xs.length :: marked (k + (xs.length : Int)) xss

end Go.Ab
end

section
namespace Go.Ab

/-! Memory at the heap's end, for simp. -/

def cellsB (b : Option Blk) (o n : Nat) : Option (List Value) :=
  match b with
  | some b => if b.live = true /\ o + n <= b.cells.length then some ((b.cells.drop o).take n) else none
  | none => none
theorem cellsAt_end0 (H L : Heap) (o n : Nat) : cellsAt (H ++ L) H.length o n = cellsB L[0]? o n := by
  have : (H ++ L)[H.length]? = L[0]? := by rw [List.getElem?_append_right (Nat.le_refl _)]; simp
  unfold cellsAt cellsB; rw [this]; rfl
theorem cellsAt_endk (H L : Heap) (k o n : Nat) : cellsAt (H ++ L) (H.length + k) o n = cellsB L[k]? o n := by
  have : (H ++ L)[H.length + k]? = L[k]? := by rw [List.getElem?_append_right (by omega)]; simp
  unfold cellsAt cellsB; rw [this]; rfl
def storeB (H L : Heap) (k o : Nat) (vs : List Value) (b : Option Blk) : Option Heap :=
  match b with
  | some b => if b.live = true /\ b.own = true /\ o + vs.length <= b.cells.length /\ vs.all Value.oneCell' = true then some (H ++ L.set k { b with cells := over b.cells o vs }) else none
  | none => none
theorem storeAt_end0 (H L : Heap) (o : Nat) (vs : List Value) : storeAt (H ++ L) H.length o vs = storeB H L 0 o vs L[0]? := by
  have : (H ++ L)[H.length]? = L[0]? := by rw [List.getElem?_append_right (Nat.le_refl _)]; simp
  unfold storeAt storeB; rw [this]
  cases L[0]? with
  | none => rfl
  | some b =>
    simp only
    rw [List.set_append_right _ _ (Nat.le_refl _), Nat.sub_self]
theorem storeAt_endk (H L : Heap) (k o : Nat) (vs : List Value) : storeAt (H ++ L) (H.length + k) o vs = storeB H L k o vs L[k]? := by
  have : (H ++ L)[H.length + k]? = L[k]? := by rw [List.getElem?_append_right (by omega)]; simp
  unfold storeAt storeB; rw [this]
  cases L[k]? with
  | none => rfl
  | some b =>
    simp only
    rw [List.set_append_right _ _ (by omega), Nat.add_sub_cancel_left]

attribute [go_sem] cellsB cellsAt_end0 cellsAt_endk storeB storeAt_end0 storeAt_endk over srcCells

structure Bk where
  a : Int
  b : Int
  c : Int
deriving DecidableEq

def Bk.cells (b : Bk) : List Value := [.int .i64 b.a, .int .i64 b.b, .int .i64 b.c]
def Bk.val (b : Bk) : Value := .agg #[.int .i64 b.a, .int .i64 b.b, .int .i64 b.c]
def tri (bs : List Bk) : List Value := bs.flatMap Bk.cells

theorem tri_cons (b : Bk) (bs : List Bk) : tri (b :: bs) = b.cells ++ tri bs := by simp [tri]
theorem tri_append (bs cs : List Bk) : tri (bs ++ cs) = tri bs ++ tri cs := by simp [tri]
theorem tri_one (b : Bk) : tri [b] = b.cells := by simp [tri]
theorem tri_length (bs : List Bk) : (tri bs).length = bs.length * 3 := by
  induction bs with
  | nil => rfl
  | cons b bs ih => rw [tri_cons, List.length_append, ih]; simp [Bk.cells]; omega
theorem tri_cut {bs : List Bk} : ∀ {s : Nat} {b : Bk}, bs[s]? = some b -> ((tri bs).drop (s * 3)).take 3 = b.cells := by
  induction bs with
  | nil => intro s b h; simp at h
  | cons d bs ih =>
    intro s b h
    cases s with
    | zero => simp at h; subst h; rw [tri_cons]; simp [Bk.cells]
    | succ s =>
      have := ih (s := s) (b := b) (by simpa using h)
      rw [tri_cons, show (s + 1) * 3 = d.cells.length + s * 3 by simp [Bk.cells]; omega, List.drop_append, List.drop_eq_nil_of_le (by omega), List.nil_append, Nat.add_sub_cancel_left]
      exact this

theorem At.bk {H : Heap} {i o : Nat} {bs : List Bk} (h : At H i o (tri bs)) {s : Nat} {b : Bk} (hb : bs[s]? = some b) : cellsAt H i (o + s * 3) 3 = some b.cells := by
  have hlt := (List.getElem?_eq_some_iff.1 hb).1
  rw [h.sub (by omega) (by rw [tri_length]; omega), tri_cut hb]

theorem At.num {H : Heap} {i o : Nat} {bs : List Bk} (h : At H i o (tri bs)) {s : Nat} {b : Bk} (hb : bs[s]? = some b) {j : Nat} {v : Value} (hv : b.cells[j]? = some v) : cellsAt H i (o + s * 3 + j) 1 = some [v] := by
  have hj : j < 3 := (List.getElem?_eq_some_iff.1 hv).1
  have hlt := (List.getElem?_eq_some_iff.1 hb).1
  rw [Nat.add_assoc]
  refine h.cell ?_
  have := tri_cut hb
  rw [<- this, List.getElem?_take, if_pos hj, List.getElem?_drop] at hv
  exact hv

def BlocksAt (H : Heap) (v : Value) (bs : List Bk) : Prop := ∃ i o, v = lv 3 i o bs.length /\ At H i o (tri bs) /\ bs.length <= 140737488355328

theorem BlocksAt.pre {H H' : Heap} (hp : H <+: H') {v : Value} {bs : List Bk} (h : BlocksAt H v bs) : BlocksAt H' v bs := by
  obtain ⟨i, o, h1, h2, h3⟩ := h
  exact ⟨i, o, h1, h2.pre hp, h3⟩

theorem one_int (k : IntKind) (n : Int) : (Value.int k n).oneCell' = true := rfl
theorem one_bool (b : Bool) : (Value.bool b).oneCell' = true := rfl
theorem one_str (s : ByteArray) : (Value.string s).oneCell' = true := rfl
theorem one_slice (a : Option Addr) (n c : Nat) : (Value.slice a n c).oneCell' = true := rfl
theorem one_ptr (a : Option Addr) : (Value.pointer a).oneCell' = true := rfl
theorem one_func (f : Fn) (az bs : Array Value) : (Value.func f az bs).oneCell' = true := rfl
attribute [go_sem] one_int one_bool one_str one_slice one_ptr one_func
theorem BlocksAt.one {H : Heap} {v : Value} {bs : List Bk} (h : BlocksAt H v bs) : v.oneCell' = true := by obtain ⟨i, o, rfl, _⟩ := h; rfl

def sysV (p : Int) (v : Value) : Value := .agg #[.int .i64 p, v]

theorem tri_over : ∀ {xs : List Bk} {s : Nat} {b : Bk}, s < xs.length -> over (tri xs) (s * 3) b.cells = tri (xs.set s b)
  | [], s, b, h => by simp at h
  | d :: xs, 0, b, h => by
    simp only [tri_cons, List.set_cons_zero]
    simp [over, Bk.cells]
  | d :: xs, s + 1, b, h => by
    have ih := tri_over (xs := xs) (s := s) (b := b) (by simpa using h)
    simp only [tri_cons, List.set_cons_succ]
    rw [<- ih]
    have e : (s + 1) * 3 = d.cells.length + s * 3 := by simp [Bk.cells]; omega
    simp only [over, e]
    rw [List.take_append, List.take_of_length_le (by omega), Nat.add_sub_cancel_left, Nat.add_assoc, List.drop_append, List.drop_eq_nil_of_le (by omega), List.nil_append, Nat.add_sub_cancel_left]
    simp

theorem made_same {z : Array Value} {v : Value} (hz : 0 < z.size) (h : ∀ i, i < z.size -> z[i]? = some v) (n : Nat) : (madeCells z n).toList = List.replicate n v := by
  apply List.ext_getElem?
  intro i
  simp only [madeCells, Array.toList_map, List.getElem?_map, Array.toList_range]
  by_cases hi : i < n
  · rw [List.getElem?_range hi, List.getElem?_replicate, if_pos hi]
    have := h (i % z.size) (Nat.mod_lt _ hz)
    simp [Array.getElem!_eq_getD, Array.getD_eq_getD_getElem?, this]
  · rw [List.getElem?_eq_none (by simp; omega), List.getElem?_replicate, if_neg hi]; rfl

def OwnBlocks (H : Heap) (v : Value) (id : Nat) (bs : List Bk) : Prop := v = lv 3 id 0 bs.length /\ (bs = [] \/ H[id]? = some ⟨tri bs, true, true⟩) /\ bs.length <= 140737488355328

theorem OwnBlocks.read {H : Heap} {v : Value} {id : Nat} {bs : List Bk} (h : OwnBlocks H v id bs) : BlocksAt H v bs := by
  obtain ⟨h1, h2, h3⟩ := h
  refine ⟨id, 0, h1, ?_, h3⟩
  rcases h2 with rfl | h2
  · exact .inl rfl
  · exact Holds.at ⟨true, h2⟩

theorem storeBk {H : Heap} {id s : Nat} {xs : List Bk} {b : Bk} (h : H[id]? = some ⟨tri xs, true, true⟩) (hs : s < xs.length) : storeAt H id (s * 3) b.cells = some (H.set id ⟨tri (xs.set s b), true, true⟩) := by
  rw [storeAt_of h rfl rfl (by simp only [tri_length]; simp [Bk.cells]; omega) (by simp [Bk.cells, Value.oneCell']), tri_over hs]

theorem OwnBlocks.keep {H H' : Heap} {v : Value} {id : Nat} {bs : List Bk} (h : OwnBlocks H v id bs) {S : Nat -> Prop} (hs : Same S H H') (hi : ¬ S id) : OwnBlocks H' v id bs := by
  obtain ⟨h1, h2, h3⟩ := h
  exact ⟨h1, h2.imp (fun h => h) fun hb => hs.get hb hi, h3⟩

theorem Same.set {H : Heap} {i : Nat} {b : Blk} : Same (fun j => j = i) H (H.set i b) :=
  ⟨by simp, fun _ _ hs => List.getElem?_set_ne (fun e => hs e.symm)⟩

end Go.Ab
end

section
namespace Go.Ab
open Go.Sort

section
variable {α : Type} {cells : α -> List Value} {w : Nat}

theorem flat_len (hc : ∀ x, (cells x).length = w) : ∀ l : List α, (l.flatMap cells).length = l.length * w
  | [] => by simp
  | b :: l => by rw [List.flatMap_cons, List.length_append, flat_len hc l, hc, List.length_cons, Nat.succ_mul, Nat.add_comm]
theorem flat_cut (hc : ∀ x, (cells x).length = w) : ∀ {l : List α} {s : Nat} {b : α}, l[s]? = some b -> ((l.flatMap cells).drop (s * w)).take w = cells b
  | [], s, b, h => by simp at h
  | d :: l, 0, b, h => by
    simp at h; subst h
    rw [List.flatMap_cons, Nat.zero_mul, List.drop_zero, List.take_append_of_le_length (by rw [hc]; exact Nat.le_refl _), List.take_of_length_le (by rw [hc]; exact Nat.le_refl _)]
  | d :: l, s + 1, b, h => by
    have ih := flat_cut hc (l := l) (s := s) (b := b) (by simpa using h)
    rw [List.flatMap_cons, show (s + 1) * w = (cells d).length + s * w by rw [hc, Nat.succ_mul, Nat.add_comm], List.drop_append, List.drop_eq_nil_of_le (by omega), List.nil_append, Nat.add_sub_cancel_left]
    exact ih
theorem flat_over (hc : ∀ x, (cells x).length = w) : ∀ {l : List α} {s : Nat} {b : α}, s < l.length -> over (l.flatMap cells) (s * w) (cells b) = (l.set s b).flatMap cells
  | [], s, b, h => by simp at h
  | d :: l, 0, b, h => by
    simp only [List.set_cons_zero, List.flatMap_cons, over, Nat.zero_mul, List.take_zero, List.nil_append, Nat.zero_add, hc]
    rw [List.drop_append, List.drop_eq_nil_of_le (by rw [hc]; exact Nat.le_refl _), hc, Nat.sub_self, List.drop_zero, List.nil_append]
  | d :: l, s + 1, b, h => by
    have ih := flat_over hc (l := l) (s := s) (b := b) (by simpa using h)
    simp only [List.set_cons_succ, List.flatMap_cons]
    rw [<- ih]
    have e : (s + 1) * w = (cells d).length + s * w := by rw [hc, Nat.succ_mul, Nat.add_comm]
    simp only [over, e]
    rw [List.take_append, List.take_of_length_le (by omega), Nat.add_sub_cancel_left, Nat.add_assoc, List.drop_append, List.drop_eq_nil_of_le (by omega), List.nil_append, Nat.add_sub_cancel_left]
    simp

theorem Same.via {S T : Nat -> Prop} {H A B : Heap} (h : Same S H A) (h' : Same T A B) (k : ∀ j, j < H.length -> T j -> S j) : Same S H B :=
  ⟨Nat.le_trans h.1 h'.1, fun j hj hs => (h'.2 j (Nat.lt_of_lt_of_le hj h.1) fun ht => hs (k j hj ht)).trans (h.2 j hj hs)⟩

def Arr (cells : α -> List Value) (H : Heap) (id : Nat) (d : Array α) : Prop := H[id]? = some ⟨d.toList.flatMap cells, true, true⟩

theorem Arr.lt {H : Heap} {id : Nat} {d : Array α} (h : Arr cells H id d) : id < H.length := (List.getElem?_eq_some_iff.1 h).1
theorem Arr.pre {H H' : Heap} {id : Nat} {d : Array α} (h : Arr cells H id d) (hp : H <+: H') : Arr cells H' id d := pget hp h
theorem Arr.load [Inhabited α] {H : Heap} {id : Nat} {d : Array α} (h : Arr cells H id d) (hc : ∀ x, (cells x).length = w) {i : Nat} (hi : i < d.size) : cellsAt H id (i * w) w = some (cells d[i]!) := by
  have hl : d.toList[i]? = some d[i]! := by rw [Array.getElem?_toList, Array.getElem?_eq_getElem hi, getElem!_pos d i hi]
  have hle : i * w + w <= (d.toList.flatMap cells).length := by
    rw [flat_len hc, Array.length_toList, <- Nat.succ_mul]
    exact Nat.mul_le_mul_right w hi
  rw [cellsAt_of h rfl hle, flat_cut hc hl]
theorem Arr.store {H : Heap} {id : Nat} {d : Array α} (h : Arr cells H id d) (hc : ∀ x, (cells x).length = w) (ho : ∀ x, (cells x).all Value.oneCell' = true) {i : Nat} {x : α} (hi : i < d.size) :
    storeAt H id (i * w) (cells x) = some (H.set id ⟨(d.setIfInBounds i x).toList.flatMap cells, true, true⟩) /\ Arr cells (H.set id ⟨(d.setIfInBounds i x).toList.flatMap cells, true, true⟩) id (d.setIfInBounds i x) := by
  have hle : i * w + w <= (d.toList.flatMap cells).length := by
    rw [flat_len hc, Array.length_toList, <- Nat.succ_mul]
    exact Nat.mul_le_mul_right w hi
  refine ⟨?_, List.getElem?_set_self h.lt⟩
  rw [storeAt_of h rfl rfl (by rw [hc]; exact hle) (ho x), flat_over hc (by simpa using hi)]
  simp

theorem same_set {H : Heap} {id : Nat} {b : Blk} : Same (fun j => j = id) H (H.set id b) := ⟨by simp, fun j hj hS => List.getElem?_set_ne (fun e => hS e.symm)⟩
theorem Arr.swap [Inhabited α] {H : Heap} {id : Nat} {d : Array α} (h : Arr cells H id d) (hc : ∀ x, (cells x).length = w) (ho : ∀ x, (cells x).all Value.oneCell' = true) {i j : Nat} (hi : i < d.size) (hj : j < d.size) :
    ∃ H1 H2, storeAt H id (i * w) (cells d[j]!) = some H1 /\ storeAt H1 id (j * w) (cells d[i]!) = some H2 /\ Arr cells H2 id (swp d i j) /\ Same (fun k => k = id) H H2 /\ H2.length = H.length := by
  obtain ⟨s1, a1⟩ := h.store hc ho (x := d[j]!) hi
  obtain ⟨s2, a2⟩ := a1.store hc ho (x := d[i]!) (i := j) (by simpa using hj)
  exact ⟨_, _, s1, s2, a2, same_set.trans (same_set (id := id)), by simp⟩

def QA (Q : α -> Prop) [Inhabited α] (d : Array α) : Prop := ∀ k, k < d.size -> Q d[k]!
theorem QA.swp [Inhabited α] {Q : α -> Prop} {d : Array α} (h : QA Q d) {i j : Nat} (hi : i < d.size) (hj : j < d.size) : QA Q (swp d i j) := by
  intro k hk
  rw [Go.Sort.swp_size] at hk
  rw [Go.Sort.swp_get d hi hj]
  split
  · exact h _ hi
  · split
    · exact h _ hj
    · exact h _ hk

end

def Cmp {α : Type} (P : Program) (val : α -> Value) (lt : α -> α -> Bool) (g : FuncId) (fs cs : List Value) (Q : α -> Prop) (id : Nat) (H : Heap) : Prop :=
  ∀ (H' : Heap) (x y : α) (Post : Value -> Heap -> Prop), Same (fun k => k = id) H H' -> Q x -> Q y ->
    (∀ (H'' : Heap) (c : Int), H' <+: H'' -> decide (c < 0) = lt x y -> Post (.int .i64 c) H'') -> ACalls P g (fs ++ val x :: val y :: cs) H' Post
theorem Cmp.keep {α : Type} {P : Program} {val : α -> Value} {lt : α -> α -> Bool} {g : FuncId} {fs cs : List Value} {Q : α -> Prop} {id : Nat} {H H' : Heap} (h : Cmp P val lt g fs cs Q id H) (hs : Same (fun k => k = id) H H') : Cmp P val lt g fs cs Q id H' :=
  fun H2 x y Post h2 => h H2 x y Post (hs.trans h2)

end Go.Ab
end

section
namespace Go.Ab
open Go.Sort
variable {α : Type} [Inhabited α] {lt : α -> α -> Bool}

theorem sift_end {hi first root ch : Nat} {d : Array α} (h : ch = 2 * root + 1) (hh : hi <= ch) : siftDown lt hi first root d = d := by
  subst h; rw [siftDown]; exact dif_pos hh
theorem sift_step {hi first root ch c2 fr fc fc2 : Nat} {d : Array α} (h : ch = 2 * root + 1) (h2 : c2 = ch + 1) (e1 : fr = first + root) (e2 : fc = first + ch) (e3 : fc2 = first + c2) (hh : ¬ hi <= ch) :
    siftDown lt hi first root d = if decide (c2 < hi) && lt d[fc]! d[fc2]! then (if lt d[fr]! d[fc2]! then siftDown lt hi first c2 (swp d fr fc2) else d)
      else (if lt d[fr]! d[fc]! then siftDown lt hi first ch (swp d fr fc) else d) := by
  subst h; subst h2; subst e1; subst e2; subst e3
  have a1 : 2 * root + 1 + 1 = 2 * root + 2 := rfl
  have a2 : first + (2 * root + 1) + 1 = first + (2 * root + 2) := rfl
  rw [siftDown, dif_neg hh, a1, a2]
  by_cases hc : 2 * root + 2 < hi
  · have hd : decide (2 * root + 2 < hi) = true := decide_eq_true hc
    simp only [hd, Bool.true_and, dif_pos hc]
    cases hl : lt d[first + (2 * root + 1)]! d[first + (2 * root + 2)]! with
    | true =>
      have e : (2 * root + 2 < hi /\ True) := ⟨hc, trivial⟩
      cases hm : lt d[first + root]! d[first + (2 * root + 2)]! <;> simp [hl, hm, hc]
    | false =>
      cases hm : lt d[first + root]! d[first + (2 * root + 1)]! <;> simp [hl, hm, hc]
  · have hd : decide (2 * root + 2 < hi) = false := decide_eq_false hc
    simp only [hd, Bool.false_and]
    cases hm : lt d[first + root]! d[first + (2 * root + 1)]! <;> simp [hm, hc]

theorem sift_size (hi first root : Nat) (d : Array α) : (siftDown lt hi first root d).size = d.size := by
  fun_induction siftDown lt hi first root d <;> simp_all [size_swp]
theorem sift_QA {Q : α -> Prop} {hi first root : Nat} {d : Array α} (hs : first + hi <= d.size) (h : QA Q d) : QA Q (siftDown lt hi first root d) := by
  fun_induction siftDown lt hi first root d with
  | case1 => exact h
  | case2 => exact h
  | case3 root d h1 h2 h3 h4 ih =>
    refine ih (by rw [size_swp]; exact hs) (h.swp (by omega) (by omega))
  | case4 => exact h
  | case5 => exact h
  | case6 root d h1 h2 h3 ih => exact ih (by rw [size_swp]; exact hs) (h.swp (by omega) (by omega))

theorem scanUp_stop {p : α -> Bool} {d : Array α} {j i : Nat} (h : j < i \/ p d[i]! = false) : scanUp p d j i = i := by
  rw [scanUp, if_neg]
  rintro hc
  rw [Bool.and_eq_true, decide_eq_true_eq] at hc
  rcases h with h | h
  · omega
  · rw [h] at hc; cases hc.2
theorem scanUp_go {p : α -> Bool} {d : Array α} {j i : Nat} (h : i <= j) (h' : p d[i]! = true) : scanUp p d j i = scanUp p d j (i + 1) := by
  rw [scanUp, if_pos]; simp [h, h']
theorem scanDown_stop {p : α -> Bool} {d : Array α} {i j : Nat} (h : j < i \/ p d[j]! = false) : scanDown p d i j = j := by
  cases j with
  | zero => rfl
  | succ r =>
    rw [scanDown, if_neg]
    rintro hc
    rw [Bool.and_eq_true, decide_eq_true_eq] at hc
    rcases h with h | h
    · omega
    · rw [h] at hc; cases hc.2
theorem scanDown_go {p : α -> Bool} {d : Array α} {i r : Nat} (h : i <= r + 1) (h' : p d[r + 1]! = true) : scanDown p d i (r + 1) = scanDown p d i r := by
  rw [scanDown, if_pos]; simp [h, h']
theorem scanSorted_stop {d : Array α} {b i : Nat} (h : b <= i \/ lt d[i]! d[i - 1]! = true) : scanSorted lt d b i = i := by
  rw [scanSorted, if_neg]
  rintro hc
  rw [Bool.and_eq_true, decide_eq_true_eq] at hc
  rcases h with h | h
  · omega
  · rw [h] at hc; cases hc.2
theorem scanSorted_go {d : Array α} {b i : Nat} (h : i < b) (h' : lt d[i]! d[i - 1]! = false) : scanSorted lt d b i = scanSorted lt d b (i + 1) := by
  rw [scanSorted, if_pos]; simp [h, h']
theorem scanSorted_bd {d : Array α} {b i : Nat} (h : i <= b) : i <= scanSorted lt d b i /\ scanSorted lt d b i <= b := by
  fun_induction scanSorted lt d b i with
  | case1 i hc ih =>
    rw [Bool.and_eq_true, decide_eq_true_eq] at hc
    have := ih (by omega); omega
  | case2 i hc => omega
theorem shiftDown_stop {j : Nat} {d : Array α} (h : lt d[j + 1]! d[j]! = false) : shiftDown lt (j + 1) d = d := by rw [shiftDown, h]; rfl
theorem shiftDown_go {j : Nat} {d : Array α} (h : lt d[j + 1]! d[j]! = true) : shiftDown lt (j + 1) d = shiftDown lt j (swp d (j + 1) j) := by rw [shiftDown, h]; rfl
theorem shiftUp_end {b j : Nat} {d : Array α} (h : b <= j) : shiftUp lt b j d = d := by rw [shiftUp, if_neg (by omega)]
theorem shiftUp_stop {b j : Nat} {d : Array α} (hj : j < b) (h : lt d[j]! d[j - 1]! = false) : shiftUp lt b j d = d := by rw [shiftUp, if_pos hj, h]; rfl
theorem shiftUp_go {b j : Nat} {d : Array α} (hj : j < b) (h : lt d[j]! d[j - 1]! = true) : shiftUp lt b j d = shiftUp lt b (j + 1) (swp d j (j - 1)) := by rw [shiftUp, if_pos hj, h]; rfl
theorem shiftDown_size : ∀ (j : Nat) (d : Array α), (shiftDown lt j d).size = d.size
  | 0, d => rfl
  | j + 1, d => by
    cases h : lt d[j + 1]! d[j]! with
    | true => rw [shiftDown_go h, shiftDown_size j, size_swp]
    | false => rw [shiftDown_stop h]
theorem shiftDown_QA {Q : α -> Prop} : ∀ {j : Nat} {d : Array α}, j < d.size -> QA Q d -> QA Q (shiftDown lt j d)
  | 0, d, _, h => h
  | j + 1, d, hj, h => by
    cases hl : lt d[j + 1]! d[j]! with
    | true => rw [shiftDown_go hl]; exact shiftDown_QA (by rw [size_swp]; omega) (h.swp hj (by omega))
    | false => rw [shiftDown_stop hl]; exact h
theorem shiftUp_size (b j : Nat) (d : Array α) : (shiftUp lt b j d).size = d.size := by
  fun_induction shiftUp lt b j d <;> simp_all [size_swp]
theorem shiftUp_QA {Q : α -> Prop} {b j : Nat} {d : Array α} (hb : b <= d.size) (h : QA Q d) : QA Q (shiftUp lt b j d) := by
  fun_induction shiftUp lt b j d with
  | case1 => exact h
  | case2 j d h1 h2 ih => exact ih (by rw [size_swp]; exact hb) (h.swp (by omega) (by omega))
  | case3 => exact h

theorem QA_perm {Q : α -> Prop} {a b : Nat} {d d' : Array α} (hb : b <= d.size) (hp : PermIn a b d d') (h : QA Q d) : QA Q d' := by
  intro k hk
  rw [hp.1] at hk
  by_cases hin : a <= k /\ k < b
  · exact permIn_all d d' a b Q hb hp (fun i _ h2 => h i (by omega)) k hin.1 hin.2
  · rw [hp.2.1 k (by omega)]; exact h k hk

theorem perm_list {n : Nat} {d d' : Array α} (hn : d.size = n) (h : PermIn 0 n d d') : d'.toList.Perm d.toList := by
  have h3 := h.2.2
  rw [<- hn, Array.extract_size] at h3
  rw [<- h.1, Array.extract_size] at h3
  exact h3
theorem sorted_list {n : Nat} {d : Array α} (hn : d.size = n) (h : SortedIn lt 0 n d) : d.toList.Pairwise fun x y => lt y x = false := by
  rw [List.pairwise_iff_getElem]
  intro i j hi hj hij
  have hi' : i < d.size := by simpa using hi
  have hj' : j < d.size := by simpa using hj
  have := h i j (Nat.zero_le _) hij (by omega)
  rw [getElem!_pos d j hj', getElem!_pos d i hi'] at this
  simpa using this

theorem reverse_stop {i j : Nat} {d : Array α} (h : ¬ i < j) : reverseLoop i j d = d := by rw [reverseLoop, if_neg h]
theorem reverse_go {i j : Nat} {d : Array α} (h : i < j) : reverseLoop i j d = reverseLoop (i + 1) (j - 1) (swp d i j) := by rw [reverseLoop, if_pos h]

end Go.Ab
end

section
namespace Go.Proofs.YtkimaohcmcfcnaaGreat
open Go.Ab Go.Sort

theorem fdivNN (a b : Nat) : ((a : Int).fdiv (b : Int)) = ((a / b : Nat) : Int) := by
  rw [Int.fdiv_eq_ediv_of_nonneg _ (by omega)]; rfl
def tabOK (s : ByteArray) : Bool := (List.range 256).all fun y => match s[y]? with | some v => v.toNat == bitsLen y | none => false
theorem bindO_tab {s : ByteArray} {x : Nat} {K : UInt8 -> Prop} (ht : tabOK s = true) (hx : x < 256) (h : ∀ v : UInt8, v.toNat = bitsLen x -> K v) : bindO s[x]? K := by
  have := List.all_eq_true.1 ht x (List.mem_range.2 hx)
  revert this
  cases hs : s[x]? with
  | none => intro h; cases h
  | some v => intro h2; exact ⟨v, rfl, h v (by simpa using h2)⟩
theorem bitsLen_lt {x k : Nat} (h : x < 2 ^ k) : bitsLen x <= k := (bitsLen_le_iff x k).2 h
theorem bitsLen_shift {x k : Nat} (h : 0 < x / 2 ^ k) : bitsLen x = k + bitsLen (x / 2 ^ k) := by
  have key : ∀ m, bitsLen x <= k + m ↔ bitsLen (x / 2 ^ k) <= m := by
    intro m
    rw [bitsLen_le_iff, bitsLen_le_iff, Nat.div_lt_iff_lt_mul (Nat.two_pow_pos k), <- Nat.pow_add, Nat.add_comm m k]
  have h1 := (key (bitsLen (x / 2 ^ k))).2 (Nat.le_refl _)
  have h2 : k <= bitsLen x := by
    rcases Nat.lt_or_ge (bitsLen x) k with h3 | h3
    · have := (bitsLen_le_iff x k).1 (by omega)
      rw [Nat.div_eq_of_lt this] at h; omega
    · exact h3
  have h3 := (key (bitsLen x - k)).1 (by omega)
  omega

theorem len64_ok {H : Heap} {x : Nat} (hx : x < 2097152) (Post : Value -> Heap -> Prop) (h : Post (.int .i64 (bitsLen x : Nat)) H) : ACalls Tryz.prog 95 [.int .u64 x] H Post := by
  refine acalls_vc (rs := [.tmp 2]) Tryz.func95 rfl rfl Tryz.ntmps95 rfl rfl ?_
  have a1 : ¬ ((4294967296 : Int) <= x) := by omega
  have a6 : ¬ 4294967296 <= x := by omega
  by_cases h1 : x < 256
  · have a2 : ¬ ((65536 : Int) <= x) := by omega
    have a3 : ¬ ((256 : Int) <= x) := by omega
    have a4 : ¬ 65536 <= x := by omega
    have a5 : ¬ 256 <= x := by omega
    have w1 : IntKind.u8.wrap (x : Int) = x := by rw [IntKind.wrap_u8]; omega
    simp (maxSteps := 1000000) [go_sem, a1, a2, a3, a4, a5, a6, w1]
    refine bindO_tab (by kernel_rfl) h1 ?_
    intro v hv
    have hb := bitsLen_lt (x := x) (k := 8) (by omega)
    generalize bitsLen x = L at *
    have w2 : IntKind.i64.wrap (L : Int) = L := i64w (by omega) (by omega)
    simp (maxSteps := 1000000) [go_sem, hv, w2]
    exact h
  · by_cases h2 : x < 65536
    · have a2 : ¬ ((65536 : Int) <= x) := by omega
      have a3 : ((256 : Int) <= x) := by omega
      have a4 : ¬ 65536 <= x := by omega
      have a5 : 256 <= x := by omega
      obtain ⟨y, hy⟩ : ∃ y, y = x / 256 := ⟨_, rfl⟩
      have hsh := bitsLen_shift (x := x) (k := 8) (by show 0 < x / 256; omega)
      have hsh' : bitsLen x = 8 + bitsLen y := by rw [hy]; exact hsh
      rw [hsh'] at h
      have w0 : (x : Int).fdiv 256 = y := by rw [show (256 : Int) = ((256 : Nat) : Int) from rfl, fdivNN, hy]
      have w4 : IntKind.i64.wrap 8 = 8 := i64w (by omega) (by omega)
      have w1 : IntKind.u8.wrap (y : Int) = y := by rw [IntKind.wrap_u8]; omega
      have hb := bitsLen_lt (x := y) (k := 8) (by omega)
      simp (maxSteps := 1000000) [go_sem, a1, a2, a3, a4, a5, a6, w0, w1]
      refine bindO_tab (by kernel_rfl) (show y < 256 by omega) ?_
      intro v hv
      generalize bitsLen y = L at *
      have w2 : IntKind.i64.wrap (L : Int) = L := i64w (by omega) (by omega)
      have w3 : IntKind.i64.wrap (8 + (L : Int)) = 8 + (L : Int) := i64w (by omega) (by omega)
      simp (maxSteps := 1000000) [go_sem, hv, w2, w3, w4]
      simpa using h
    · have a2 : ((65536 : Int) <= x) := by omega
      have a3 : ((256 : Int) <= x) := by omega
      have a4 : 65536 <= x := by omega
      have a5 : 256 <= x := by omega
      obtain ⟨y, hy⟩ : ∃ y, y = x / 65536 := ⟨_, rfl⟩
      have hsh := bitsLen_shift (x := x) (k := 16) (by show 0 < x / 65536; omega)
      have hsh' : bitsLen x = 16 + bitsLen y := by rw [hy]; exact hsh
      rw [hsh'] at h
      have w0 : (x : Int).fdiv 65536 = y := by rw [show (65536 : Int) = ((65536 : Nat) : Int) from rfl, fdivNN, hy]
      have w4 : IntKind.i64.wrap 16 = 16 := i64w (by omega) (by omega)
      have w1 : IntKind.u8.wrap (y : Int) = y := by rw [IntKind.wrap_u8]; omega
      have hb := bitsLen_lt (x := y) (k := 8) (by omega)
      have a7 : ¬ ((256 : Int) <= y) := by omega
      have a8 : ¬ 256 <= y := by omega
      simp (maxSteps := 1000000) [go_sem, a1, a2, a3, a4, a5, a6, w0, w1, a7, a8]
      refine bindO_tab (by kernel_rfl) (show y < 256 by omega) ?_
      intro v hv
      generalize bitsLen y = L at *
      have w2 : IntKind.i64.wrap (L : Int) = L := i64w (by omega) (by omega)
      have w3 : IntKind.i64.wrap (16 + (L : Int)) = 16 + (L : Int) := i64w (by omega) (by omega)
      simp (maxSteps := 1000000) [go_sem, hv, w2, w3, w4]
      simpa using h

theorem bitsLenC_ok {H : Heap} {x : Nat} (hx : x < 2097152) (Post : Value -> Heap -> Prop) (h : Post (.int .i64 (bitsLen x : Nat)) H) : ACalls Tryz.prog 80 [.int .u64 x] H Post := by
  refine acalls_vc (rs := [.tmp 2]) Tryz.func80 rfl rfl Tryz.ntmps80 rfl rfl ?_
  have w1 : IntKind.u64.wrap (x : Int) = x := by rw [IntKind.wrap_u64]; omega
  simp (maxSteps := 1000000) [go_sem, w1]
  refine len64_ok hx _ ?_
  simp (maxSteps := 1000000) [go_sem]
  exact h

theorem nextPow_ok {H : Heap} {x : Nat} (h0 : 0 < x) (hx : x < 2097152) (Post : Value -> Heap -> Prop) (h : ∀ m : Nat, 0 < m -> m <= 2 * x -> Post (.int .u64 m) H) : ACalls Tryz.prog 97 [.int .i64 x] H Post := by
  refine acalls_vc (rs := [.tmp 2]) Tryz.func97 rfl rfl Tryz.ntmps97 rfl rfl ?_
  have w1 : IntKind.u64.wrap (x : Int) = x := by rw [IntKind.wrap_u64]; omega
  simp (maxSteps := 1000000) [go_sem, w1]
  refine bitsLenC_ok hx _ ?_
  have hp := two_pow_bitsLen_le h0
  have hb := bitsLen_lt (x := x) (k := 21) (by omega)
  have fin := h _ (Nat.two_pow_pos (bitsLen x)) hp
  have hcast : ((2 : Int) ^ bitsLen x) = ((2 ^ bitsLen x : Nat) : Int) := by rw [Int.natCast_pow]; rfl
  have hmin : min (bitsLen x) 64 = bitsLen x := by omega
  generalize bitsLen x = L at *
  obtain ⟨T, hT⟩ : ∃ T, T = 2 ^ L := ⟨_, rfl⟩
  rw [<- hT] at hcast hp fin
  have hsh : IntKind.u64.wrap ((2 : Int) ^ L) = T := by rw [hcast, IntKind.wrap_u64]; omega
  simp (maxSteps := 1000000) [go_sem, hmin, hsh]
  exact fin

theorem xorNext_ok {H : Heap} {rid : Nat} {z : Int} (hz : H[rid]? = some ⟨[.int .u64 z], true, true⟩) (Post : Value -> Heap -> Prop)
    (h : ∀ (z' : Nat) (H' : Heap), z' < 18446744073709551616 -> Same (fun k => k = rid) H H' -> H'[rid]? = some ⟨[.int .u64 z'], true, true⟩ -> Post (.int .u64 z') H') :
    ACalls Tryz.prog 98 [.pointer (some ⟨rid, 0, none⟩)] H Post := by
  have hlt := (List.getElem?_eq_some_iff.1 hz).1
  have l0 : cellsAt H rid 0 1 = some [.int .u64 z] := by rw [cellsAt_of hz rfl (by simp)]; rfl
  have s0 : ∀ v : Int, storeAt H rid 0 [.int .u64 v] = some (H.set rid ⟨[.int .u64 v], true, true⟩) := by
    intro v; rw [storeAt_of hz rfl rfl (by simp) (by simp [Value.oneCell'])]; rfl
  have g1 : ∀ v : Int, (H.set rid ⟨[.int .u64 v], true, true⟩)[rid]? = some ⟨[.int .u64 v], true, true⟩ := fun v => List.getElem?_set_self hlt
  have l1 : ∀ v : Int, cellsAt (H.set rid ⟨[.int .u64 v], true, true⟩) rid 0 1 = some [.int .u64 v] := by
    intro v; rw [cellsAt_of (g1 v) rfl (by simp)]; rfl
  have s1 : ∀ v w : Int, storeAt (H.set rid ⟨[.int .u64 v], true, true⟩) rid 0 [.int .u64 w] = some (H.set rid ⟨[.int .u64 w], true, true⟩) := by
    intro v w; rw [storeAt_of (g1 v) rfl rfl (by simp) (by simp [Value.oneCell'])]; simp [over]
  have fin : ∀ v : Int, 0 <= v -> v < 18446744073709551616 -> Post (.int .u64 v) (H.set rid ⟨[.int .u64 v], true, true⟩) := by
    intro v h0 h1
    obtain ⟨k, rfl⟩ : ∃ k : Nat, v = k := ⟨v.toNat, by omega⟩
    exact h k _ (by omega) same_set (g1 _)
  refine acalls_vc (rs := [.tmp 2]) Tryz.func98 rfl rfl Tryz.ntmps98 rfl rfl ?_
  simp (maxSteps := 1000000) [go_sem]
  refine AWp.draw mixed [(0, false), (1, false), (2, false), (3, false), (4, false), (5, false), (6, false), (7, false), (8, false), (9, false)] (by kernel_rfl) ?_
  simp (maxSteps := 1000000) [go_sem, l0, s0]
  refine AWp.draw mixed [(0, false), (1, false), (2, false), (3, false), (4, false), (5, false), (6, false), (7, false), (8, false), (9, false)] (by kernel_rfl) ?_
  simp (maxSteps := 1000000) [go_sem, l1, s1]
  refine AWp.draw mixed [(0, false), (1, false), (2, false), (3, false), (4, false), (5, false), (6, false), (7, false), (8, false), (9, false)] (by kernel_rfl) ?_
  simp (maxSteps := 1000000) [go_sem, l1, s1]
  refine fin _ ?_ ?_ <;> (rw [IntKind.wrap_u64]; omega)

theorem and_u64r {a b : Nat} (hb : b < 2 ^ 62) : IntKind.u64.wrap ((@BitVec.toNat 64 (@HAnd.hAnd (BitVec 64) (BitVec 64) (BitVec 64) (@instHAndOfAndOp (BitVec IntKind.u64.bits) (@BitVec.instAndOp IntKind.u64.bits)) (BitVec.ofNat 64 a) (BitVec.ofNat 64 b)) : Nat) : Int) = (((a % 2 ^ 64) &&& b : Nat) : Int) := by
  have e : (@BitVec.toNat 64 (@HAnd.hAnd (BitVec 64) (BitVec 64) (BitVec 64) (@instHAndOfAndOp (BitVec IntKind.u64.bits) (@BitVec.instAndOp IntKind.u64.bits)) (BitVec.ofNat 64 a) (BitVec.ofNat 64 b))) = (a % 2 ^ 64) &&& b := by
    show ((BitVec.ofNat 64 a) &&& (BitVec.ofNat 64 b)).toNat = _
    rw [BitVec.toNat_and, BitVec.toNat_ofNat, BitVec.toNat_ofNat, Nat.mod_eq_of_lt (show b < 2 ^ 64 by omega)]
  rw [e, IntKind.wrap_u64]
  have h1 : (a % 2 ^ 64) &&& b <= b := Nat.and_le_right
  omega

end Go.Proofs.YtkimaohcmcfcnaaGreat
end

section
namespace Go.Proofs.YtkimaohcmcfcnaaGreat
open Go.Ab

theorem within_ok {H : Heap} {n lo hi : Int} (Post : Value -> Heap -> Prop) (h : Post (.bool (decide (lo <= n) && decide (n <= hi))) H) :
    ACalls Tryz.prog 40 [.int .i64 n, .int .i64 lo, .int .i64 hi] H Post := by
  refine acalls_vc (rs := [.tmp 6]) Tryz.func40 rfl rfl Tryz.ntmps40 rfl rfl ?_
  simp (maxSteps := 1000000) [go_sem]
  refine condK_intro (fun h1 => ?_) (fun h1 => ?_) <;> simp_all

theorem l01In_ok {H : Heap} {n lo hi : Int} (Post : Value -> Heap -> Prop) (h : Post (.bool (decide (lo <= n) && decide (n <= hi))) H) :
    ACalls Tryz.prog 54 [.int .i64 n, .int .i64 lo, .int .i64 hi] H Post := by
  refine acalls_vc (rs := [.tmp 6]) Tryz.func54 rfl rfl Tryz.ntmps54 rfl rfl ?_
  simp (maxSteps := 1000000) [go_sem]
  refine condK_intro (fun h1 => ?_) (fun h1 => ?_) <;> simp_all

end Go.Proofs.YtkimaohcmcfcnaaGreat
end

section
namespace Go.Ab

def good (v : Int) (b : Bk) : Bool := decide (0 <= b.a) && decide (b.a < b.b) && decide (b.b < b.c) && decide (b.c < v)
def before (x y : Bk) : Bool := if x.a ≠ y.a then decide (x.a < y.a) else if x.b ≠ y.b then decide (x.b < y.b) else decide (x.c < y.c)
def eq01 (x y : Int) : Nat := if x = y then 1 else 0
def common (x y : Bk) : Nat := eq01 x.a y.a + eq01 x.a y.b + eq01 x.a y.c + (eq01 x.b y.a + eq01 x.b y.b + eq01 x.b y.c) + (eq01 x.c y.a + eq01 x.c y.b + eq01 x.c y.c)
def Bk.nth (b : Bk) (i : Nat) : Int := if i = 0 then b.a else if i = 1 then b.b else b.c
def cnt (x y : Bk) (i k : Nat) : Nat :=
  (if 0 < i then eq01 x.a y.a + eq01 x.a y.b + eq01 x.a y.c else 0) + (if 1 < i then eq01 x.b y.a + eq01 x.b y.b + eq01 x.b y.c else 0) + (if 2 < i then eq01 x.c y.a + eq01 x.c y.b + eq01 x.c y.c else 0) +
  ((if 0 < k then eq01 (x.nth i) y.a else 0) + (if 1 < k then eq01 (x.nth i) y.b else 0) + (if 2 < k then eq01 (x.nth i) y.c else 0))

theorem eq01_le (x y : Int) : eq01 x y <= 1 := by unfold eq01; split <;> omega
theorem ite_le (p : Prop) [Decidable p] (a : Nat) : (if p then a else 0) <= a := by split <;> omega
theorem cnt_le (x y : Bk) (i k : Nat) : cnt x y i k <= 12 := by
  have a1 := eq01_le x.a y.a; have a2 := eq01_le x.a y.b; have a3 := eq01_le x.a y.c
  have b1 := eq01_le x.b y.a; have b2 := eq01_le x.b y.b; have b3 := eq01_le x.b y.c
  have c1 := eq01_le x.c y.a; have c2 := eq01_le x.c y.b; have c3 := eq01_le x.c y.c
  have d1 := eq01_le (x.nth i) y.a; have d2 := eq01_le (x.nth i) y.b; have d3 := eq01_le (x.nth i) y.c
  have e1 := ite_le (0 < i) (eq01 x.a y.a + eq01 x.a y.b + eq01 x.a y.c)
  have e2 := ite_le (1 < i) (eq01 x.b y.a + eq01 x.b y.b + eq01 x.b y.c)
  have e3 := ite_le (2 < i) (eq01 x.c y.a + eq01 x.c y.b + eq01 x.c y.c)
  have e4 := ite_le (0 < k) (eq01 (x.nth i) y.a)
  have e5 := ite_le (1 < k) (eq01 (x.nth i) y.b)
  have e6 := ite_le (2 < k) (eq01 (x.nth i) y.c)
  unfold cnt
  omega
theorem cnt_succ (x y : Bk) (i : Nat) {k : Nat} (h : k < 3) : cnt x y i (k + 1) = cnt x y i k + eq01 (x.nth i) (y.nth k) := by
  have : k = 0 \/ k = 1 \/ k = 2 := by omega
  rcases this with rfl | rfl | rfl <;> simp [cnt, Bk.nth] <;> omega
theorem cnt_end (x y : Bk) {i : Nat} (h : i < 3) : cnt x y i 3 = cnt x y (i + 1) 0 := by
  have : i = 0 \/ i = 1 \/ i = 2 := by omega
  rcases this with rfl | rfl | rfl <;> simp [cnt, Bk.nth] <;> omega
theorem cnt_all (x y : Bk) : cnt x y 3 0 = common x y := by simp [cnt, common]

def Fits (bs : List Bk) : Prop := ∀ (i k : Nat) (x y : Bk), k < i -> bs[i]? = some x -> bs[k]? = some y -> common x y <= 1
def Sorted (v : Int) (bs : List Bk) : Prop := ∀ (i : Nat) (x : Bk), bs[i]? = some x -> good v x = true /\ ∀ y, 0 < i -> bs[i - 1]? = some y -> before y x = true
def IsSys (p : Int) (bs : List Bk) : Prop := (3 <= p /\ p <= 15) /\ bs.length <= 35 /\ Sorted p bs /\ Fits bs

def Rises (n : Int) (xs : List Int) : Prop := ∀ (a : Nat) (x : Int), xs[a]? = some x -> (0 <= x /\ x < n) /\ ∀ y, 0 < a -> xs[a - 1]? = some y -> y < x

theorem rises_block (v : Int) (b : Bk) : Rises v [b.a, b.b, b.c] ↔ good v b = true := by
  simp only [good, Bool.and_eq_true, decide_eq_true_eq]
  constructor
  · intro h
    have h0 := h 0 b.a rfl
    have h1 := h 1 b.b rfl
    have h2 := h 2 b.c rfl
    have := h1.2 b.a (by omega) rfl
    have := h2.2 b.b (by omega) rfl
    omega
  · intro h a x hx
    match a, hx with
    | 0, hx => simp at hx; subst hx; exact ⟨by omega, by omega⟩
    | 1, hx => simp at hx; subst hx; exact ⟨by omega, fun y _ hy => by simp at hy; omega⟩
    | 2, hx => simp at hx; subst hx; exact ⟨by omega, fun y _ hy => by simp at hy; omega⟩
    | a + 3, hx => simp at hx

def lexC : List Int -> List Int -> Int
  | [], [] => 0
  | [], _ :: _ => -1
  | _ :: _, [] => 1
  | x :: xs, y :: ys => if x < y then -1 else if y < x then 1 else lexC xs ys

theorem lexC_block (x y : Bk) : (0 <= lexC [x.a, x.b, x.c] [y.a, y.b, y.c]) ↔ before x y = false := by
  simp only [lexC, before]
  repeat' split
  all_goals simp_all
  all_goals omega

end Go.Ab
end
