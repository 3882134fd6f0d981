/- Part 3 of what the proof of the law FnExactParseSystem rests on: contracts of functions of the program, for every argument that each names; no statement of the seat is proved here. -/
import Derived.Test.YtkimaohcmcfcnaaDoorProg
import Derived.KernelRfl
import Derived.Test.YtkimaohcmcfcnaaDoorRows
import Derived.Shelf.Strings.Cut
import Derived.Shelf.Strings.Split
import Derived.Shelf.Strconv.ParseIntPublic10
import Derived.Shelf.Strings.OnBuilder
import Derived.Shelf.Strconv.Itoa4
import Derived.Test.YtkimaohcmcfcnaaDoorFnExactParseSystemPart2

set_option linter.all false
set_option maxRecDepth 20000
set_option maxHeartbeats 8000000
section
namespace Go.Proofs.YtkimaohcmcfcnaaDoor
open Go.Ab

theorem ti2 : ti Tryd.prog 2 = some ⟨.int .i64, 1, 8, (.int .i64 0)⟩ := by kernel_rfl
theorem zok2 : zeroOK Tryd.prog 2 = true := by kernel_rfl
theorem ti3 : ti Tryd.prog 3 = some ⟨.int .i64, 1, 8, (.int .i64 0)⟩ := by kernel_rfl
theorem zok3 : zeroOK Tryd.prog 3 = true := by kernel_rfl
theorem ti4 : ti Tryd.prog 4 = some ⟨.bool, 1, 1, (.bool false)⟩ := by kernel_rfl
theorem zok4 : zeroOK Tryd.prog 4 = true := by kernel_rfl
theorem ti5 : ti Tryd.prog 5 = some ⟨.int .u8, 1, 1, (.int .u8 0)⟩ := by kernel_rfl
theorem zok5 : zeroOK Tryd.prog 5 = true := by kernel_rfl
theorem ti6 : ti Tryd.prog 6 = some ⟨.int .u8, 1, 1, (.int .u8 0)⟩ := by kernel_rfl
theorem zok6 : zeroOK Tryd.prog 6 = true := by kernel_rfl
theorem ti7 : ti Tryd.prog 7 = some ⟨.struct (Tryd.prog.fieldsOf 7), 4, 24, (.agg #[(.int .i64 0), (.int .i64 0), (.bool false), (.int .u8 0)])⟩ := by kernel_rfl
theorem zok7 : zeroOK Tryd.prog 7 = true := by kernel_rfl
theorem ti8 : ti Tryd.prog 8 = some ⟨.struct (Tryd.prog.fieldsOf 8), 4, 24, (.agg #[(.int .i64 0), (.int .i64 0), (.bool false), (.int .u8 0)])⟩ := by kernel_rfl
theorem zok8 : zeroOK Tryd.prog 8 = true := by kernel_rfl
theorem ti9 : ti Tryd.prog 9 = some ⟨.string, 1, 16, (.string ⟨#[]⟩)⟩ := by kernel_rfl
theorem zok9 : zeroOK Tryd.prog 9 = true := by kernel_rfl
theorem ti10 : ti Tryd.prog 10 = some ⟨.string, 1, 16, (.string ⟨#[]⟩)⟩ := by kernel_rfl
theorem zok10 : zeroOK Tryd.prog 10 = true := by kernel_rfl
theorem ti11 : ti Tryd.prog 11 = some ⟨.string, 1, 16, (.string ⟨#[]⟩)⟩ := by kernel_rfl
theorem zok11 : zeroOK Tryd.prog 11 = true := by kernel_rfl
theorem ti12 : ti Tryd.prog 12 = some ⟨.int .u64, 1, 8, (.int .u64 0)⟩ := by kernel_rfl
theorem zok12 : zeroOK Tryd.prog 12 = true := by kernel_rfl
theorem ti13 : ti Tryd.prog 13 = some ⟨.struct (Tryd.prog.fieldsOf 13), 2, 24, (.agg #[(.string ⟨#[]⟩), (.int .u64 0)])⟩ := by kernel_rfl
theorem zok13 : zeroOK Tryd.prog 13 = true := by kernel_rfl
theorem ti14 : ti Tryd.prog 14 = some ⟨.struct (Tryd.prog.fieldsOf 14), 2, 24, (.agg #[(.string ⟨#[]⟩), (.int .u64 0)])⟩ := by kernel_rfl
theorem zok14 : zeroOK Tryd.prog 14 = true := by kernel_rfl
theorem ti15 : ti Tryd.prog 15 = some ⟨.pointer 147, 1, 8, (.pointer none)⟩ := by kernel_rfl
theorem zok15 : zeroOK Tryd.prog 15 = true := by kernel_rfl
theorem ti16 : ti Tryd.prog 16 = some ⟨.pointer 150, 1, 8, (.pointer none)⟩ := by kernel_rfl
theorem zok16 : zeroOK Tryd.prog 16 = true := by kernel_rfl
theorem ti17 : ti Tryd.prog 17 = some ⟨.pointer 158, 1, 8, (.pointer none)⟩ := by kernel_rfl
theorem zok17 : zeroOK Tryd.prog 17 = true := by kernel_rfl
theorem ti18 : ti Tryd.prog 18 = some ⟨.struct (Tryd.prog.fieldsOf 18), 1, 8, (.agg #[(.pointer none)])⟩ := by kernel_rfl
theorem zok18 : zeroOK Tryd.prog 18 = true := by kernel_rfl
theorem ti19 : ti Tryd.prog 19 = some ⟨.struct (Tryd.prog.fieldsOf 19), 1, 8, (.agg #[(.pointer none)])⟩ := by kernel_rfl
theorem zok19 : zeroOK Tryd.prog 19 = true := by kernel_rfl
theorem ti21 : ti Tryd.prog 21 = some ⟨.int .i32, 1, 4, (.int .i32 0)⟩ := by kernel_rfl
theorem zok21 : zeroOK Tryd.prog 21 = true := by kernel_rfl
theorem ti22 : ti Tryd.prog 22 = some ⟨.slice 53, 1, 24, (.slice none 0 0)⟩ := by kernel_rfl
theorem zok22 : zeroOK Tryd.prog 22 = true := by kernel_rfl
theorem ti23 : ti Tryd.prog 23 = some ⟨.struct (Tryd.prog.fieldsOf 23), 2, 32, (.agg #[(.int .i64 0), (.slice none 0 0)])⟩ := by kernel_rfl
theorem zok23 : zeroOK Tryd.prog 23 = true := by kernel_rfl
theorem ti24 : ti Tryd.prog 24 = some ⟨.struct (Tryd.prog.fieldsOf 24), 2, 32, (.agg #[(.int .i64 0), (.slice none 0 0)])⟩ := by kernel_rfl
theorem zok24 : zeroOK Tryd.prog 24 = true := by kernel_rfl
theorem ti28 : ti Tryd.prog 28 = some ⟨.slice 54, 1, 24, (.slice none 0 0)⟩ := by kernel_rfl
theorem zok28 : zeroOK Tryd.prog 28 = true := by kernel_rfl
theorem ti29 : ti Tryd.prog 29 = some ⟨.struct (Tryd.prog.fieldsOf 29), 2, 32, (.agg #[(.int .i64 0), (.slice none 0 0)])⟩ := by kernel_rfl
theorem zok29 : zeroOK Tryd.prog 29 = true := by kernel_rfl
theorem ti30 : ti Tryd.prog 30 = some ⟨.struct (Tryd.prog.fieldsOf 30), 2, 32, (.agg #[(.int .i64 0), (.slice none 0 0)])⟩ := by kernel_rfl
theorem zok30 : zeroOK Tryd.prog 30 = true := by kernel_rfl
theorem ti51 : ti Tryd.prog 51 = some ⟨.slice 9, 1, 24, (.slice none 0 0)⟩ := by kernel_rfl
theorem zok51 : zeroOK Tryd.prog 51 = true := by kernel_rfl
theorem ti53 : ti Tryd.prog 53 = some ⟨.array 3 2, 3, 24, (.agg #[(.int .i64 0), (.int .i64 0), (.int .i64 0)])⟩ := by kernel_rfl
theorem zok53 : zeroOK Tryd.prog 53 = true := by kernel_rfl
theorem ti54 : ti Tryd.prog 54 = some ⟨.array 3 2, 3, 24, (.agg #[(.int .i64 0), (.int .i64 0), (.int .i64 0)])⟩ := by kernel_rfl
theorem zok54 : zeroOK Tryd.prog 54 = true := by kernel_rfl
theorem ti74 : ti Tryd.prog 74 = some ⟨.slice 5, 1, 24, (.slice none 0 0)⟩ := by kernel_rfl
theorem zok74 : zeroOK Tryd.prog 74 = true := by kernel_rfl
theorem ti76 : ti Tryd.prog 76 = some ⟨.pointer 122, 1, 8, (.pointer none)⟩ := by kernel_rfl
theorem zok76 : zeroOK Tryd.prog 76 = true := by kernel_rfl
theorem ti81 : ti Tryd.prog 81 = some ⟨.int .i64, 1, 8, (.int .i64 0)⟩ := by kernel_rfl
theorem zok81 : zeroOK Tryd.prog 81 = true := by kernel_rfl
theorem ti82 : ti Tryd.prog 82 = some ⟨.int .u64, 1, 8, (.int .u64 0)⟩ := by kernel_rfl
theorem zok82 : zeroOK Tryd.prog 82 = true := by kernel_rfl
theorem ti85 : ti Tryd.prog 85 = some ⟨.int .u64, 1, 8, (.int .u64 0)⟩ := by kernel_rfl
theorem zok85 : zeroOK Tryd.prog 85 = true := by kernel_rfl
theorem ti86 : ti Tryd.prog 86 = some ⟨.pointer 114, 1, 8, (.pointer none)⟩ := by kernel_rfl
theorem zok86 : zeroOK Tryd.prog 86 = true := by kernel_rfl
theorem ti91 : ti Tryd.prog 91 = some ⟨.slice 2, 1, 24, (.slice none 0 0)⟩ := by kernel_rfl
theorem zok91 : zeroOK Tryd.prog 91 = true := by kernel_rfl
theorem ti97 : ti Tryd.prog 97 = some ⟨.array 24 5, 24, 24, (.agg (Array.replicate 24 (.int .u8 0)))⟩ := by kernel_rfl
theorem zok97 : zeroOK Tryd.prog 97 = true := by kernel_rfl
theorem ti102 : ti Tryd.prog 102 = some ⟨.pointer 104, 1, 8, (.pointer none)⟩ := by kernel_rfl
theorem zok102 : zeroOK Tryd.prog 102 = true := by kernel_rfl
theorem ti103 : ti Tryd.prog 103 = some ⟨.struct (Tryd.prog.fieldsOf 103), 2, 32, (.agg #[(.pointer none), (.slice none 0 0)])⟩ := by kernel_rfl
theorem zok103 : zeroOK Tryd.prog 103 = true := by kernel_rfl
theorem ti104 : ti Tryd.prog 104 = some ⟨.struct (Tryd.prog.fieldsOf 104), 2, 32, (.agg #[(.pointer none), (.slice none 0 0)])⟩ := by kernel_rfl
theorem zok104 : zeroOK Tryd.prog 104 = true := by kernel_rfl
theorem ti113 : ti Tryd.prog 113 = some ⟨.struct (Tryd.prog.fieldsOf 113), 3, 48, (.agg #[(.string ⟨#[]⟩), (.string ⟨#[]⟩), .nilIface])⟩ := by kernel_rfl
theorem zok113 : zeroOK Tryd.prog 113 = true := by kernel_rfl
theorem ti114 : ti Tryd.prog 114 = some ⟨.struct (Tryd.prog.fieldsOf 114), 3, 48, (.agg #[(.string ⟨#[]⟩), (.string ⟨#[]⟩), .nilIface])⟩ := by kernel_rfl
theorem zok114 : zeroOK Tryd.prog 114 = true := by kernel_rfl
theorem ti120 : ti Tryd.prog 120 = some ⟨.array 15 2, 15, 120, (.agg (Array.replicate 15 (.int .i64 0)))⟩ := by kernel_rfl
theorem zok120 : zeroOK Tryd.prog 120 = true := by kernel_rfl
theorem ti121 : ti Tryd.prog 121 = some ⟨.array 15 120, 225, 1800, (.agg (Array.replicate 225 (.int .i64 0)))⟩ := by kernel_rfl
theorem zok121 : zeroOK Tryd.prog 121 = true := by kernel_rfl
theorem ti122 : ti Tryd.prog 122 = some ⟨.array 15 120, 225, 1800, (.agg (Array.replicate 225 (.int .i64 0)))⟩ := by kernel_rfl
theorem zok122 : zeroOK Tryd.prog 122 = true := by kernel_rfl
theorem ti124 : ti Tryd.prog 124 = some ⟨.array 20 82, 20, 160, (.agg (Array.replicate 20 (.int .u64 0)))⟩ := by kernel_rfl
theorem zok124 : zeroOK Tryd.prog 124 = true := by kernel_rfl
theorem ti125 : ti Tryd.prog 125 = some ⟨.int .u32, 1, 4, (.int .u32 0)⟩ := by kernel_rfl
theorem zok125 : zeroOK Tryd.prog 125 = true := by kernel_rfl
theorem ti126 : ti Tryd.prog 126 = some ⟨.array 65 5, 65, 65, (.agg (Array.replicate 65 (.int .u8 0)))⟩ := by kernel_rfl
theorem zok126 : zeroOK Tryd.prog 126 = true := by kernel_rfl
theorem ti129 : ti Tryd.prog 129 = some ⟨.pointer 5, 1, 8, (.pointer none)⟩ := by kernel_rfl
theorem zok129 : zeroOK Tryd.prog 129 = true := by kernel_rfl
theorem ti132 : ti Tryd.prog 132 = some ⟨.pointer 134, 1, 8, (.pointer none)⟩ := by kernel_rfl
theorem zok132 : zeroOK Tryd.prog 132 = true := by kernel_rfl
theorem ti133 : ti Tryd.prog 133 = some ⟨.struct (Tryd.prog.fieldsOf 133), 1, 16, (.agg #[(.string ⟨#[]⟩)])⟩ := by kernel_rfl
theorem zok133 : zeroOK Tryd.prog 133 = true := by kernel_rfl
theorem ti134 : ti Tryd.prog 134 = some ⟨.struct (Tryd.prog.fieldsOf 134), 1, 16, (.agg #[(.string ⟨#[]⟩)])⟩ := by kernel_rfl
theorem zok134 : zeroOK Tryd.prog 134 = true := by kernel_rfl
theorem ti140 : ti Tryd.prog 140 = some ⟨.array 256 5, 256, 256, (.agg (Array.replicate 256 (.int .u8 0)))⟩ := by kernel_rfl
theorem zok140 : zeroOK Tryd.prog 140 = true := by kernel_rfl
theorem ti141 : ti Tryd.prog 141 = some ⟨.struct (Tryd.prog.fieldsOf 141), 2, 2, (.agg #[(.int .u8 0), (.int .u8 0)])⟩ := by kernel_rfl
theorem zok141 : zeroOK Tryd.prog 141 = true := by kernel_rfl
theorem ti142 : ti Tryd.prog 142 = some ⟨.struct (Tryd.prog.fieldsOf 142), 2, 2, (.agg #[(.int .u8 0), (.int .u8 0)])⟩ := by kernel_rfl
theorem zok142 : zeroOK Tryd.prog 142 = true := by kernel_rfl
theorem ti143 : ti Tryd.prog 143 = some ⟨.array 16 142, 32, 32, (.agg (Array.replicate 32 (.int .u8 0)))⟩ := by kernel_rfl
theorem zok143 : zeroOK Tryd.prog 143 = true := by kernel_rfl
theorem ti144 : ti Tryd.prog 144 = some ⟨.array 32 5, 32, 32, (.agg (Array.replicate 32 (.int .u8 0)))⟩ := by kernel_rfl
theorem zok144 : zeroOK Tryd.prog 144 = true := by kernel_rfl
theorem ti145 : ti Tryd.prog 145 = some ⟨.array 64 5, 64, 64, (.agg (Array.replicate 64 (.int .u8 0)))⟩ := by kernel_rfl
theorem zok145 : zeroOK Tryd.prog 145 = true := by kernel_rfl
theorem ti146 : ti Tryd.prog 146 = some ⟨.struct (Tryd.prog.fieldsOf 146), 4, 40, (.agg #[(.pointer none), (.pointer none), (.pointer none), (.string ⟨#[]⟩)])⟩ := by kernel_rfl
theorem zok146 : zeroOK Tryd.prog 146 = true := by kernel_rfl
theorem ti147 : ti Tryd.prog 147 = some ⟨.struct (Tryd.prog.fieldsOf 147), 4, 40, (.agg #[(.pointer none), (.pointer none), (.pointer none), (.string ⟨#[]⟩)])⟩ := by kernel_rfl
theorem zok147 : zeroOK Tryd.prog 147 = true := by kernel_rfl
theorem ti148 : ti Tryd.prog 148 = some ⟨.array 0 16, 0, 0, (.agg #[])⟩ := by kernel_rfl
theorem zok148 : zeroOK Tryd.prog 148 = true := by kernel_rfl
theorem ti149 : ti Tryd.prog 149 = some ⟨.struct (Tryd.prog.fieldsOf 149), 0, 0, (.agg #[])⟩ := by kernel_rfl
theorem zok149 : zeroOK Tryd.prog 149 = true := by kernel_rfl
theorem ti150 : ti Tryd.prog 150 = some ⟨.struct (Tryd.prog.fieldsOf 150), 0, 0, (.agg #[])⟩ := by kernel_rfl
theorem zok150 : zeroOK Tryd.prog 150 = true := by kernel_rfl
theorem ti152 : ti Tryd.prog 152 = some ⟨.int .u8, 1, 1, (.int .u8 0)⟩ := by kernel_rfl
theorem zok152 : zeroOK Tryd.prog 152 = true := by kernel_rfl
theorem ti153 : ti Tryd.prog 153 = some ⟨.int .u8, 1, 1, (.int .u8 0)⟩ := by kernel_rfl
theorem zok153 : zeroOK Tryd.prog 153 = true := by kernel_rfl
theorem ti155 : ti Tryd.prog 155 = some ⟨.int .i32, 1, 4, (.int .i32 0)⟩ := by kernel_rfl
theorem zok155 : zeroOK Tryd.prog 155 = true := by kernel_rfl
theorem ti156 : ti Tryd.prog 156 = some ⟨.int .i32, 1, 4, (.int .i32 0)⟩ := by kernel_rfl
theorem zok156 : zeroOK Tryd.prog 156 = true := by kernel_rfl
theorem ti157 : ti Tryd.prog 157 = some ⟨.struct (Tryd.prog.fieldsOf 157), 11, 48, (.agg #[(.int .u64 0), (.int .u64 0), (.int .u32 0), (.int .u8 0), (.int .u8 0), (.int .u8 0), (.int .u8 0), .nilFunc, (.pointer none), (.int .i32 0), (.int .i32 0)])⟩ := by kernel_rfl
theorem zok157 : zeroOK Tryd.prog 157 = true := by kernel_rfl
theorem ti158 : ti Tryd.prog 158 = some ⟨.struct (Tryd.prog.fieldsOf 158), 11, 48, (.agg #[(.int .u64 0), (.int .u64 0), (.int .u32 0), (.int .u8 0), (.int .u8 0), (.int .u8 0), (.int .u8 0), .nilFunc, (.pointer none), (.int .i32 0), (.int .i32 0)])⟩ := by kernel_rfl
theorem zok158 : zeroOK Tryd.prog 158 = true := by kernel_rfl
theorem bt7_  : Tryd.prog.built 7 [] = some #[(.int .i64 0), (.int .i64 0), (.bool false), (.int .u8 0)] := by kernel_rfl
theorem bt7_0 (x0 : Int) : Tryd.prog.built 7 [(0, (.int .i64 x0))] = some #[(.int .i64 x0), (.int .i64 0), (.bool false), (.int .u8 0)] := by kernel_rfl
theorem bt7_1 (x1 : Int) : Tryd.prog.built 7 [(1, (.int .i64 x1))] = some #[(.int .i64 0), (.int .i64 x1), (.bool false), (.int .u8 0)] := by kernel_rfl
theorem bt7_2 (x2 : Bool) : Tryd.prog.built 7 [(2, (.bool x2))] = some #[(.int .i64 0), (.int .i64 0), (.bool x2), (.int .u8 0)] := by kernel_rfl
theorem bt7_3 (x3 : Int) : Tryd.prog.built 7 [(3, (.int .u8 x3))] = some #[(.int .i64 0), (.int .i64 0), (.bool false), (.int .u8 x3)] := by kernel_rfl
theorem bt7_01 (x0 : Int) (x1 : Int) : Tryd.prog.built 7 [(0, (.int .i64 x0)), (1, (.int .i64 x1))] = some #[(.int .i64 x0), (.int .i64 x1), (.bool false), (.int .u8 0)] := by kernel_rfl
theorem bt7_02 (x0 : Int) (x2 : Bool) : Tryd.prog.built 7 [(0, (.int .i64 x0)), (2, (.bool x2))] = some #[(.int .i64 x0), (.int .i64 0), (.bool x2), (.int .u8 0)] := by kernel_rfl
theorem bt7_03 (x0 : Int) (x3 : Int) : Tryd.prog.built 7 [(0, (.int .i64 x0)), (3, (.int .u8 x3))] = some #[(.int .i64 x0), (.int .i64 0), (.bool false), (.int .u8 x3)] := by kernel_rfl
theorem bt7_12 (x1 : Int) (x2 : Bool) : Tryd.prog.built 7 [(1, (.int .i64 x1)), (2, (.bool x2))] = some #[(.int .i64 0), (.int .i64 x1), (.bool x2), (.int .u8 0)] := by kernel_rfl
theorem bt7_13 (x1 : Int) (x3 : Int) : Tryd.prog.built 7 [(1, (.int .i64 x1)), (3, (.int .u8 x3))] = some #[(.int .i64 0), (.int .i64 x1), (.bool false), (.int .u8 x3)] := by kernel_rfl
theorem bt7_23 (x2 : Bool) (x3 : Int) : Tryd.prog.built 7 [(2, (.bool x2)), (3, (.int .u8 x3))] = some #[(.int .i64 0), (.int .i64 0), (.bool x2), (.int .u8 x3)] := by kernel_rfl
theorem bt7_012 (x0 : Int) (x1 : Int) (x2 : Bool) : Tryd.prog.built 7 [(0, (.int .i64 x0)), (1, (.int .i64 x1)), (2, (.bool x2))] = some #[(.int .i64 x0), (.int .i64 x1), (.bool x2), (.int .u8 0)] := by kernel_rfl
theorem bt7_013 (x0 : Int) (x1 : Int) (x3 : Int) : Tryd.prog.built 7 [(0, (.int .i64 x0)), (1, (.int .i64 x1)), (3, (.int .u8 x3))] = some #[(.int .i64 x0), (.int .i64 x1), (.bool false), (.int .u8 x3)] := by kernel_rfl
theorem bt7_023 (x0 : Int) (x2 : Bool) (x3 : Int) : Tryd.prog.built 7 [(0, (.int .i64 x0)), (2, (.bool x2)), (3, (.int .u8 x3))] = some #[(.int .i64 x0), (.int .i64 0), (.bool x2), (.int .u8 x3)] := by kernel_rfl
theorem bt7_123 (x1 : Int) (x2 : Bool) (x3 : Int) : Tryd.prog.built 7 [(1, (.int .i64 x1)), (2, (.bool x2)), (3, (.int .u8 x3))] = some #[(.int .i64 0), (.int .i64 x1), (.bool x2), (.int .u8 x3)] := by kernel_rfl
theorem bt7_0123 (x0 : Int) (x1 : Int) (x2 : Bool) (x3 : Int) : Tryd.prog.built 7 [(0, (.int .i64 x0)), (1, (.int .i64 x1)), (2, (.bool x2)), (3, (.int .u8 x3))] = some #[(.int .i64 x0), (.int .i64 x1), (.bool x2), (.int .u8 x3)] := by kernel_rfl
theorem bt8_  : Tryd.prog.built 8 [] = some #[(.int .i64 0), (.int .i64 0), (.bool false), (.int .u8 0)] := by kernel_rfl
theorem bt8_0 (x0 : Int) : Tryd.prog.built 8 [(0, (.int .i64 x0))] = some #[(.int .i64 x0), (.int .i64 0), (.bool false), (.int .u8 0)] := by kernel_rfl
theorem bt8_1 (x1 : Int) : Tryd.prog.built 8 [(1, (.int .i64 x1))] = some #[(.int .i64 0), (.int .i64 x1), (.bool false), (.int .u8 0)] := by kernel_rfl
theorem bt8_2 (x2 : Bool) : Tryd.prog.built 8 [(2, (.bool x2))] = some #[(.int .i64 0), (.int .i64 0), (.bool x2), (.int .u8 0)] := by kernel_rfl
theorem bt8_3 (x3 : Int) : Tryd.prog.built 8 [(3, (.int .u8 x3))] = some #[(.int .i64 0), (.int .i64 0), (.bool false), (.int .u8 x3)] := by kernel_rfl
theorem bt8_01 (x0 : Int) (x1 : Int) : Tryd.prog.built 8 [(0, (.int .i64 x0)), (1, (.int .i64 x1))] = some #[(.int .i64 x0), (.int .i64 x1), (.bool false), (.int .u8 0)] := by kernel_rfl
theorem bt8_02 (x0 : Int) (x2 : Bool) : Tryd.prog.built 8 [(0, (.int .i64 x0)), (2, (.bool x2))] = some #[(.int .i64 x0), (.int .i64 0), (.bool x2), (.int .u8 0)] := by kernel_rfl
theorem bt8_03 (x0 : Int) (x3 : Int) : Tryd.prog.built 8 [(0, (.int .i64 x0)), (3, (.int .u8 x3))] = some #[(.int .i64 x0), (.int .i64 0), (.bool false), (.int .u8 x3)] := by kernel_rfl
theorem bt8_12 (x1 : Int) (x2 : Bool) : Tryd.prog.built 8 [(1, (.int .i64 x1)), (2, (.bool x2))] = some #[(.int .i64 0), (.int .i64 x1), (.bool x2), (.int .u8 0)] := by kernel_rfl
theorem bt8_13 (x1 : Int) (x3 : Int) : Tryd.prog.built 8 [(1, (.int .i64 x1)), (3, (.int .u8 x3))] = some #[(.int .i64 0), (.int .i64 x1), (.bool false), (.int .u8 x3)] := by kernel_rfl
theorem bt8_23 (x2 : Bool) (x3 : Int) : Tryd.prog.built 8 [(2, (.bool x2)), (3, (.int .u8 x3))] = some #[(.int .i64 0), (.int .i64 0), (.bool x2), (.int .u8 x3)] := by kernel_rfl
theorem bt8_012 (x0 : Int) (x1 : Int) (x2 : Bool) : Tryd.prog.built 8 [(0, (.int .i64 x0)), (1, (.int .i64 x1)), (2, (.bool x2))] = some #[(.int .i64 x0), (.int .i64 x1), (.bool x2), (.int .u8 0)] := by kernel_rfl
theorem bt8_013 (x0 : Int) (x1 : Int) (x3 : Int) : Tryd.prog.built 8 [(0, (.int .i64 x0)), (1, (.int .i64 x1)), (3, (.int .u8 x3))] = some #[(.int .i64 x0), (.int .i64 x1), (.bool false), (.int .u8 x3)] := by kernel_rfl
theorem bt8_023 (x0 : Int) (x2 : Bool) (x3 : Int) : Tryd.prog.built 8 [(0, (.int .i64 x0)), (2, (.bool x2)), (3, (.int .u8 x3))] = some #[(.int .i64 x0), (.int .i64 0), (.bool x2), (.int .u8 x3)] := by kernel_rfl
theorem bt8_123 (x1 : Int) (x2 : Bool) (x3 : Int) : Tryd.prog.built 8 [(1, (.int .i64 x1)), (2, (.bool x2)), (3, (.int .u8 x3))] = some #[(.int .i64 0), (.int .i64 x1), (.bool x2), (.int .u8 x3)] := by kernel_rfl
theorem bt8_0123 (x0 : Int) (x1 : Int) (x2 : Bool) (x3 : Int) : Tryd.prog.built 8 [(0, (.int .i64 x0)), (1, (.int .i64 x1)), (2, (.bool x2)), (3, (.int .u8 x3))] = some #[(.int .i64 x0), (.int .i64 x1), (.bool x2), (.int .u8 x3)] := by kernel_rfl
theorem bt13_  : Tryd.prog.built 13 [] = some #[(.string ⟨#[]⟩), (.int .u64 0)] := by kernel_rfl
theorem bt13_0 (x0 : ByteArray) : Tryd.prog.built 13 [(0, (.string x0))] = some #[(.string x0), (.int .u64 0)] := by kernel_rfl
theorem bt13_1 (x1 : Int) : Tryd.prog.built 13 [(1, (.int .u64 x1))] = some #[(.string ⟨#[]⟩), (.int .u64 x1)] := by kernel_rfl
theorem bt13_01 (x0 : ByteArray) (x1 : Int) : Tryd.prog.built 13 [(0, (.string x0)), (1, (.int .u64 x1))] = some #[(.string x0), (.int .u64 x1)] := by kernel_rfl
theorem bt14_  : Tryd.prog.built 14 [] = some #[(.string ⟨#[]⟩), (.int .u64 0)] := by kernel_rfl
theorem bt14_0 (x0 : ByteArray) : Tryd.prog.built 14 [(0, (.string x0))] = some #[(.string x0), (.int .u64 0)] := by kernel_rfl
theorem bt14_1 (x1 : Int) : Tryd.prog.built 14 [(1, (.int .u64 x1))] = some #[(.string ⟨#[]⟩), (.int .u64 x1)] := by kernel_rfl
theorem bt14_01 (x0 : ByteArray) (x1 : Int) : Tryd.prog.built 14 [(0, (.string x0)), (1, (.int .u64 x1))] = some #[(.string x0), (.int .u64 x1)] := by kernel_rfl
theorem bt18_  : Tryd.prog.built 18 [] = some #[(.pointer none)] := by kernel_rfl
theorem bt18_0 (x0 : Option Addr) : Tryd.prog.built 18 [(0, (.pointer x0))] = some #[(.pointer x0)] := by kernel_rfl
theorem bt19_  : Tryd.prog.built 19 [] = some #[(.pointer none)] := by kernel_rfl
theorem bt19_0 (x0 : Option Addr) : Tryd.prog.built 19 [(0, (.pointer x0))] = some #[(.pointer x0)] := by kernel_rfl
theorem bs53_0  : builtSl Tryd.prog 53 0 [] = some #[] := by kernel_rfl
theorem bs53_1 (v0_0 v0_1 v0_2 : Value) : builtSl Tryd.prog 53 1 [(0, (.agg #[v0_0, v0_1, v0_2]))] = some #[v0_0, v0_1, v0_2] := by kernel_rfl
theorem bs53_2 (v0_0 v0_1 v0_2 : Value) (v1_0 v1_1 v1_2 : Value) : builtSl Tryd.prog 53 2 [(0, (.agg #[v0_0, v0_1, v0_2])), (1, (.agg #[v1_0, v1_1, v1_2]))] = some #[v0_0, v0_1, v0_2, v1_0, v1_1, v1_2] := by kernel_rfl
theorem bs53_3 (v0_0 v0_1 v0_2 : Value) (v1_0 v1_1 v1_2 : Value) (v2_0 v2_1 v2_2 : Value) : builtSl Tryd.prog 53 3 [(0, (.agg #[v0_0, v0_1, v0_2])), (1, (.agg #[v1_0, v1_1, v1_2])), (2, (.agg #[v2_0, v2_1, v2_2]))] = some #[v0_0, v0_1, v0_2, v1_0, v1_1, v1_2, v2_0, v2_1, v2_2] := by kernel_rfl
theorem bs53_4 (v0_0 v0_1 v0_2 : Value) (v1_0 v1_1 v1_2 : Value) (v2_0 v2_1 v2_2 : Value) (v3_0 v3_1 v3_2 : Value) : builtSl Tryd.prog 53 4 [(0, (.agg #[v0_0, v0_1, v0_2])), (1, (.agg #[v1_0, v1_1, v1_2])), (2, (.agg #[v2_0, v2_1, v2_2])), (3, (.agg #[v3_0, v3_1, v3_2]))] = some #[v0_0, v0_1, v0_2, v1_0, v1_1, v1_2, v2_0, v2_1, v2_2, v3_0, v3_1, v3_2] := by kernel_rfl
theorem bs53_5 (v0_0 v0_1 v0_2 : Value) (v1_0 v1_1 v1_2 : Value) (v2_0 v2_1 v2_2 : Value) (v3_0 v3_1 v3_2 : Value) (v4_0 v4_1 v4_2 : Value) : builtSl Tryd.prog 53 5 [(0, (.agg #[v0_0, v0_1, v0_2])), (1, (.agg #[v1_0, v1_1, v1_2])), (2, (.agg #[v2_0, v2_1, v2_2])), (3, (.agg #[v3_0, v3_1, v3_2])), (4, (.agg #[v4_0, v4_1, v4_2]))] = some #[v0_0, v0_1, v0_2, v1_0, v1_1, v1_2, v2_0, v2_1, v2_2, v3_0, v3_1, v3_2, v4_0, v4_1, v4_2] := by kernel_rfl
theorem bs53_6 (v0_0 v0_1 v0_2 : Value) (v1_0 v1_1 v1_2 : Value) (v2_0 v2_1 v2_2 : Value) (v3_0 v3_1 v3_2 : Value) (v4_0 v4_1 v4_2 : Value) (v5_0 v5_1 v5_2 : Value) : builtSl Tryd.prog 53 6 [(0, (.agg #[v0_0, v0_1, v0_2])), (1, (.agg #[v1_0, v1_1, v1_2])), (2, (.agg #[v2_0, v2_1, v2_2])), (3, (.agg #[v3_0, v3_1, v3_2])), (4, (.agg #[v4_0, v4_1, v4_2])), (5, (.agg #[v5_0, v5_1, v5_2]))] = some #[v0_0, v0_1, v0_2, v1_0, v1_1, v1_2, v2_0, v2_1, v2_2, v3_0, v3_1, v3_2, v4_0, v4_1, v4_2, v5_0, v5_1, v5_2] := by kernel_rfl
theorem bt23_  : Tryd.prog.built 23 [] = some #[(.int .i64 0), (.slice none 0 0)] := by kernel_rfl
theorem bt23_0 (x0 : Int) : Tryd.prog.built 23 [(0, (.int .i64 x0))] = some #[(.int .i64 x0), (.slice none 0 0)] := by kernel_rfl
theorem bt23_1 (a1 : Option Addr) (n1 c1 : Nat) : Tryd.prog.built 23 [(1, (.slice a1 n1 c1))] = some #[(.int .i64 0), (.slice a1 n1 c1)] := by kernel_rfl
theorem bt23_01 (x0 : Int) (a1 : Option Addr) (n1 c1 : Nat) : Tryd.prog.built 23 [(0, (.int .i64 x0)), (1, (.slice a1 n1 c1))] = some #[(.int .i64 x0), (.slice a1 n1 c1)] := by kernel_rfl
theorem bt24_  : Tryd.prog.built 24 [] = some #[(.int .i64 0), (.slice none 0 0)] := by kernel_rfl
theorem bt24_0 (x0 : Int) : Tryd.prog.built 24 [(0, (.int .i64 x0))] = some #[(.int .i64 x0), (.slice none 0 0)] := by kernel_rfl
theorem bt24_1 (a1 : Option Addr) (n1 c1 : Nat) : Tryd.prog.built 24 [(1, (.slice a1 n1 c1))] = some #[(.int .i64 0), (.slice a1 n1 c1)] := by kernel_rfl
theorem bt24_01 (x0 : Int) (a1 : Option Addr) (n1 c1 : Nat) : Tryd.prog.built 24 [(0, (.int .i64 x0)), (1, (.slice a1 n1 c1))] = some #[(.int .i64 x0), (.slice a1 n1 c1)] := by kernel_rfl
theorem bs54_0  : builtSl Tryd.prog 54 0 [] = some #[] := by kernel_rfl
theorem bs54_1 (v0_0 v0_1 v0_2 : Value) : builtSl Tryd.prog 54 1 [(0, (.agg #[v0_0, v0_1, v0_2]))] = some #[v0_0, v0_1, v0_2] := by kernel_rfl
theorem bs54_2 (v0_0 v0_1 v0_2 : Value) (v1_0 v1_1 v1_2 : Value) : builtSl Tryd.prog 54 2 [(0, (.agg #[v0_0, v0_1, v0_2])), (1, (.agg #[v1_0, v1_1, v1_2]))] = some #[v0_0, v0_1, v0_2, v1_0, v1_1, v1_2] := by kernel_rfl
theorem bs54_3 (v0_0 v0_1 v0_2 : Value) (v1_0 v1_1 v1_2 : Value) (v2_0 v2_1 v2_2 : Value) : builtSl Tryd.prog 54 3 [(0, (.agg #[v0_0, v0_1, v0_2])), (1, (.agg #[v1_0, v1_1, v1_2])), (2, (.agg #[v2_0, v2_1, v2_2]))] = some #[v0_0, v0_1, v0_2, v1_0, v1_1, v1_2, v2_0, v2_1, v2_2] := by kernel_rfl
theorem bs54_4 (v0_0 v0_1 v0_2 : Value) (v1_0 v1_1 v1_2 : Value) (v2_0 v2_1 v2_2 : Value) (v3_0 v3_1 v3_2 : Value) : builtSl Tryd.prog 54 4 [(0, (.agg #[v0_0, v0_1, v0_2])), (1, (.agg #[v1_0, v1_1, v1_2])), (2, (.agg #[v2_0, v2_1, v2_2])), (3, (.agg #[v3_0, v3_1, v3_2]))] = some #[v0_0, v0_1, v0_2, v1_0, v1_1, v1_2, v2_0, v2_1, v2_2, v3_0, v3_1, v3_2] := by kernel_rfl
theorem bs54_5 (v0_0 v0_1 v0_2 : Value) (v1_0 v1_1 v1_2 : Value) (v2_0 v2_1 v2_2 : Value) (v3_0 v3_1 v3_2 : Value) (v4_0 v4_1 v4_2 : Value) : builtSl Tryd.prog 54 5 [(0, (.agg #[v0_0, v0_1, v0_2])), (1, (.agg #[v1_0, v1_1, v1_2])), (2, (.agg #[v2_0, v2_1, v2_2])), (3, (.agg #[v3_0, v3_1, v3_2])), (4, (.agg #[v4_0, v4_1, v4_2]))] = some #[v0_0, v0_1, v0_2, v1_0, v1_1, v1_2, v2_0, v2_1, v2_2, v3_0, v3_1, v3_2, v4_0, v4_1, v4_2] := by kernel_rfl
theorem bs54_6 (v0_0 v0_1 v0_2 : Value) (v1_0 v1_1 v1_2 : Value) (v2_0 v2_1 v2_2 : Value) (v3_0 v3_1 v3_2 : Value) (v4_0 v4_1 v4_2 : Value) (v5_0 v5_1 v5_2 : Value) : builtSl Tryd.prog 54 6 [(0, (.agg #[v0_0, v0_1, v0_2])), (1, (.agg #[v1_0, v1_1, v1_2])), (2, (.agg #[v2_0, v2_1, v2_2])), (3, (.agg #[v3_0, v3_1, v3_2])), (4, (.agg #[v4_0, v4_1, v4_2])), (5, (.agg #[v5_0, v5_1, v5_2]))] = some #[v0_0, v0_1, v0_2, v1_0, v1_1, v1_2, v2_0, v2_1, v2_2, v3_0, v3_1, v3_2, v4_0, v4_1, v4_2, v5_0, v5_1, v5_2] := by kernel_rfl
theorem bt29_  : Tryd.prog.built 29 [] = some #[(.int .i64 0), (.slice none 0 0)] := by kernel_rfl
theorem bt29_0 (x0 : Int) : Tryd.prog.built 29 [(0, (.int .i64 x0))] = some #[(.int .i64 x0), (.slice none 0 0)] := by kernel_rfl
theorem bt29_1 (a1 : Option Addr) (n1 c1 : Nat) : Tryd.prog.built 29 [(1, (.slice a1 n1 c1))] = some #[(.int .i64 0), (.slice a1 n1 c1)] := by kernel_rfl
theorem bt29_01 (x0 : Int) (a1 : Option Addr) (n1 c1 : Nat) : Tryd.prog.built 29 [(0, (.int .i64 x0)), (1, (.slice a1 n1 c1))] = some #[(.int .i64 x0), (.slice a1 n1 c1)] := by kernel_rfl
theorem bt30_  : Tryd.prog.built 30 [] = some #[(.int .i64 0), (.slice none 0 0)] := by kernel_rfl
theorem bt30_0 (x0 : Int) : Tryd.prog.built 30 [(0, (.int .i64 x0))] = some #[(.int .i64 x0), (.slice none 0 0)] := by kernel_rfl
theorem bt30_1 (a1 : Option Addr) (n1 c1 : Nat) : Tryd.prog.built 30 [(1, (.slice a1 n1 c1))] = some #[(.int .i64 0), (.slice a1 n1 c1)] := by kernel_rfl
theorem bt30_01 (x0 : Int) (a1 : Option Addr) (n1 c1 : Nat) : Tryd.prog.built 30 [(0, (.int .i64 x0)), (1, (.slice a1 n1 c1))] = some #[(.int .i64 x0), (.slice a1 n1 c1)] := by kernel_rfl
theorem bs9_0  : builtSl Tryd.prog 9 0 [] = some #[] := by kernel_rfl
theorem bs9_1 (x0 : ByteArray) : builtSl Tryd.prog 9 1 [(0, (.string x0))] = some #[(.string x0)] := by kernel_rfl
theorem bs9_2 (x0 : ByteArray) (x1 : ByteArray) : builtSl Tryd.prog 9 2 [(0, (.string x0)), (1, (.string x1))] = some #[(.string x0), (.string x1)] := by kernel_rfl
theorem bs9_3 (x0 : ByteArray) (x1 : ByteArray) (x2 : ByteArray) : builtSl Tryd.prog 9 3 [(0, (.string x0)), (1, (.string x1)), (2, (.string x2))] = some #[(.string x0), (.string x1), (.string x2)] := by kernel_rfl
theorem bs9_4 (x0 : ByteArray) (x1 : ByteArray) (x2 : ByteArray) (x3 : ByteArray) : builtSl Tryd.prog 9 4 [(0, (.string x0)), (1, (.string x1)), (2, (.string x2)), (3, (.string x3))] = some #[(.string x0), (.string x1), (.string x2), (.string x3)] := by kernel_rfl
theorem bs9_5 (x0 : ByteArray) (x1 : ByteArray) (x2 : ByteArray) (x3 : ByteArray) (x4 : ByteArray) : builtSl Tryd.prog 9 5 [(0, (.string x0)), (1, (.string x1)), (2, (.string x2)), (3, (.string x3)), (4, (.string x4))] = some #[(.string x0), (.string x1), (.string x2), (.string x3), (.string x4)] := by kernel_rfl
theorem bs9_6 (x0 : ByteArray) (x1 : ByteArray) (x2 : ByteArray) (x3 : ByteArray) (x4 : ByteArray) (x5 : ByteArray) : builtSl Tryd.prog 9 6 [(0, (.string x0)), (1, (.string x1)), (2, (.string x2)), (3, (.string x3)), (4, (.string x4)), (5, (.string x5))] = some #[(.string x0), (.string x1), (.string x2), (.string x3), (.string x4), (.string x5)] := by kernel_rfl
theorem bt53_  : Tryd.prog.built 53 [] = some #[(.int .i64 0), (.int .i64 0), (.int .i64 0)] := by kernel_rfl
theorem bt53_0 (x0 : Int) : Tryd.prog.built 53 [(0, (.int .i64 x0))] = some #[(.int .i64 x0), (.int .i64 0), (.int .i64 0)] := by kernel_rfl
theorem bt53_1 (x1 : Int) : Tryd.prog.built 53 [(1, (.int .i64 x1))] = some #[(.int .i64 0), (.int .i64 x1), (.int .i64 0)] := by kernel_rfl
theorem bt53_2 (x2 : Int) : Tryd.prog.built 53 [(2, (.int .i64 x2))] = some #[(.int .i64 0), (.int .i64 0), (.int .i64 x2)] := by kernel_rfl
theorem bt53_01 (x0 : Int) (x1 : Int) : Tryd.prog.built 53 [(0, (.int .i64 x0)), (1, (.int .i64 x1))] = some #[(.int .i64 x0), (.int .i64 x1), (.int .i64 0)] := by kernel_rfl
theorem bt53_02 (x0 : Int) (x2 : Int) : Tryd.prog.built 53 [(0, (.int .i64 x0)), (2, (.int .i64 x2))] = some #[(.int .i64 x0), (.int .i64 0), (.int .i64 x2)] := by kernel_rfl
theorem bt53_12 (x1 : Int) (x2 : Int) : Tryd.prog.built 53 [(1, (.int .i64 x1)), (2, (.int .i64 x2))] = some #[(.int .i64 0), (.int .i64 x1), (.int .i64 x2)] := by kernel_rfl
theorem bt53_012 (x0 : Int) (x1 : Int) (x2 : Int) : Tryd.prog.built 53 [(0, (.int .i64 x0)), (1, (.int .i64 x1)), (2, (.int .i64 x2))] = some #[(.int .i64 x0), (.int .i64 x1), (.int .i64 x2)] := by kernel_rfl
theorem bt54_  : Tryd.prog.built 54 [] = some #[(.int .i64 0), (.int .i64 0), (.int .i64 0)] := by kernel_rfl
theorem bt54_0 (x0 : Int) : Tryd.prog.built 54 [(0, (.int .i64 x0))] = some #[(.int .i64 x0), (.int .i64 0), (.int .i64 0)] := by kernel_rfl
theorem bt54_1 (x1 : Int) : Tryd.prog.built 54 [(1, (.int .i64 x1))] = some #[(.int .i64 0), (.int .i64 x1), (.int .i64 0)] := by kernel_rfl
theorem bt54_2 (x2 : Int) : Tryd.prog.built 54 [(2, (.int .i64 x2))] = some #[(.int .i64 0), (.int .i64 0), (.int .i64 x2)] := by kernel_rfl
theorem bt54_01 (x0 : Int) (x1 : Int) : Tryd.prog.built 54 [(0, (.int .i64 x0)), (1, (.int .i64 x1))] = some #[(.int .i64 x0), (.int .i64 x1), (.int .i64 0)] := by kernel_rfl
theorem bt54_02 (x0 : Int) (x2 : Int) : Tryd.prog.built 54 [(0, (.int .i64 x0)), (2, (.int .i64 x2))] = some #[(.int .i64 x0), (.int .i64 0), (.int .i64 x2)] := by kernel_rfl
theorem bt54_12 (x1 : Int) (x2 : Int) : Tryd.prog.built 54 [(1, (.int .i64 x1)), (2, (.int .i64 x2))] = some #[(.int .i64 0), (.int .i64 x1), (.int .i64 x2)] := by kernel_rfl
theorem bt54_012 (x0 : Int) (x1 : Int) (x2 : Int) : Tryd.prog.built 54 [(0, (.int .i64 x0)), (1, (.int .i64 x1)), (2, (.int .i64 x2))] = some #[(.int .i64 x0), (.int .i64 x1), (.int .i64 x2)] := by kernel_rfl
theorem bs5_0  : builtSl Tryd.prog 5 0 [] = some #[] := by kernel_rfl
theorem bs5_1 (x0 : Int) : builtSl Tryd.prog 5 1 [(0, (.int .u8 x0))] = some #[(.int .u8 x0)] := by kernel_rfl
theorem bs5_2 (x0 : Int) (x1 : Int) : builtSl Tryd.prog 5 2 [(0, (.int .u8 x0)), (1, (.int .u8 x1))] = some #[(.int .u8 x0), (.int .u8 x1)] := by kernel_rfl
theorem bs5_3 (x0 : Int) (x1 : Int) (x2 : Int) : builtSl Tryd.prog 5 3 [(0, (.int .u8 x0)), (1, (.int .u8 x1)), (2, (.int .u8 x2))] = some #[(.int .u8 x0), (.int .u8 x1), (.int .u8 x2)] := by kernel_rfl
theorem bs5_4 (x0 : Int) (x1 : Int) (x2 : Int) (x3 : Int) : builtSl Tryd.prog 5 4 [(0, (.int .u8 x0)), (1, (.int .u8 x1)), (2, (.int .u8 x2)), (3, (.int .u8 x3))] = some #[(.int .u8 x0), (.int .u8 x1), (.int .u8 x2), (.int .u8 x3)] := by kernel_rfl
theorem bs5_5 (x0 : Int) (x1 : Int) (x2 : Int) (x3 : Int) (x4 : Int) : builtSl Tryd.prog 5 5 [(0, (.int .u8 x0)), (1, (.int .u8 x1)), (2, (.int .u8 x2)), (3, (.int .u8 x3)), (4, (.int .u8 x4))] = some #[(.int .u8 x0), (.int .u8 x1), (.int .u8 x2), (.int .u8 x3), (.int .u8 x4)] := by kernel_rfl
theorem bs5_6 (x0 : Int) (x1 : Int) (x2 : Int) (x3 : Int) (x4 : Int) (x5 : Int) : builtSl Tryd.prog 5 6 [(0, (.int .u8 x0)), (1, (.int .u8 x1)), (2, (.int .u8 x2)), (3, (.int .u8 x3)), (4, (.int .u8 x4)), (5, (.int .u8 x5))] = some #[(.int .u8 x0), (.int .u8 x1), (.int .u8 x2), (.int .u8 x3), (.int .u8 x4), (.int .u8 x5)] := by kernel_rfl
theorem bs2_0  : builtSl Tryd.prog 2 0 [] = some #[] := by kernel_rfl
theorem bs2_1 (x0 : Int) : builtSl Tryd.prog 2 1 [(0, (.int .i64 x0))] = some #[(.int .i64 x0)] := by kernel_rfl
theorem bs2_2 (x0 : Int) (x1 : Int) : builtSl Tryd.prog 2 2 [(0, (.int .i64 x0)), (1, (.int .i64 x1))] = some #[(.int .i64 x0), (.int .i64 x1)] := by kernel_rfl
theorem bs2_3 (x0 : Int) (x1 : Int) (x2 : Int) : builtSl Tryd.prog 2 3 [(0, (.int .i64 x0)), (1, (.int .i64 x1)), (2, (.int .i64 x2))] = some #[(.int .i64 x0), (.int .i64 x1), (.int .i64 x2)] := by kernel_rfl
theorem bs2_4 (x0 : Int) (x1 : Int) (x2 : Int) (x3 : Int) : builtSl Tryd.prog 2 4 [(0, (.int .i64 x0)), (1, (.int .i64 x1)), (2, (.int .i64 x2)), (3, (.int .i64 x3))] = some #[(.int .i64 x0), (.int .i64 x1), (.int .i64 x2), (.int .i64 x3)] := by kernel_rfl
theorem bs2_5 (x0 : Int) (x1 : Int) (x2 : Int) (x3 : Int) (x4 : Int) : builtSl Tryd.prog 2 5 [(0, (.int .i64 x0)), (1, (.int .i64 x1)), (2, (.int .i64 x2)), (3, (.int .i64 x3)), (4, (.int .i64 x4))] = some #[(.int .i64 x0), (.int .i64 x1), (.int .i64 x2), (.int .i64 x3), (.int .i64 x4)] := by kernel_rfl
theorem bs2_6 (x0 : Int) (x1 : Int) (x2 : Int) (x3 : Int) (x4 : Int) (x5 : Int) : builtSl Tryd.prog 2 6 [(0, (.int .i64 x0)), (1, (.int .i64 x1)), (2, (.int .i64 x2)), (3, (.int .i64 x3)), (4, (.int .i64 x4)), (5, (.int .i64 x5))] = some #[(.int .i64 x0), (.int .i64 x1), (.int .i64 x2), (.int .i64 x3), (.int .i64 x4), (.int .i64 x5)] := by kernel_rfl
theorem bt103_  : Tryd.prog.built 103 [] = some #[(.pointer none), (.slice none 0 0)] := by kernel_rfl
theorem bt103_0 (x0 : Option Addr) : Tryd.prog.built 103 [(0, (.pointer x0))] = some #[(.pointer x0), (.slice none 0 0)] := by kernel_rfl
theorem bt103_1 (a1 : Option Addr) (n1 c1 : Nat) : Tryd.prog.built 103 [(1, (.slice a1 n1 c1))] = some #[(.pointer none), (.slice a1 n1 c1)] := by kernel_rfl
theorem bt103_01 (x0 : Option Addr) (a1 : Option Addr) (n1 c1 : Nat) : Tryd.prog.built 103 [(0, (.pointer x0)), (1, (.slice a1 n1 c1))] = some #[(.pointer x0), (.slice a1 n1 c1)] := by kernel_rfl
theorem bt104_  : Tryd.prog.built 104 [] = some #[(.pointer none), (.slice none 0 0)] := by kernel_rfl
theorem bt104_0 (x0 : Option Addr) : Tryd.prog.built 104 [(0, (.pointer x0))] = some #[(.pointer x0), (.slice none 0 0)] := by kernel_rfl
theorem bt104_1 (a1 : Option Addr) (n1 c1 : Nat) : Tryd.prog.built 104 [(1, (.slice a1 n1 c1))] = some #[(.pointer none), (.slice a1 n1 c1)] := by kernel_rfl
theorem bt104_01 (x0 : Option Addr) (a1 : Option Addr) (n1 c1 : Nat) : Tryd.prog.built 104 [(0, (.pointer x0)), (1, (.slice a1 n1 c1))] = some #[(.pointer x0), (.slice a1 n1 c1)] := by kernel_rfl
theorem bt113_  : Tryd.prog.built 113 [] = some #[(.string ⟨#[]⟩), (.string ⟨#[]⟩), .nilIface] := by kernel_rfl
theorem bt113_0 (x0 : ByteArray) : Tryd.prog.built 113 [(0, (.string x0))] = some #[(.string x0), (.string ⟨#[]⟩), .nilIface] := by kernel_rfl
theorem bt113_1 (x1 : ByteArray) : Tryd.prog.built 113 [(1, (.string x1))] = some #[(.string ⟨#[]⟩), (.string x1), .nilIface] := by kernel_rfl
theorem bt113_01 (x0 : ByteArray) (x1 : ByteArray) : Tryd.prog.built 113 [(0, (.string x0)), (1, (.string x1))] = some #[(.string x0), (.string x1), .nilIface] := by kernel_rfl
theorem bt114_  : Tryd.prog.built 114 [] = some #[(.string ⟨#[]⟩), (.string ⟨#[]⟩), .nilIface] := by kernel_rfl
theorem bt114_0 (x0 : ByteArray) : Tryd.prog.built 114 [(0, (.string x0))] = some #[(.string x0), (.string ⟨#[]⟩), .nilIface] := by kernel_rfl
theorem bt114_1 (x1 : ByteArray) : Tryd.prog.built 114 [(1, (.string x1))] = some #[(.string ⟨#[]⟩), (.string x1), .nilIface] := by kernel_rfl
theorem bt114_01 (x0 : ByteArray) (x1 : ByteArray) : Tryd.prog.built 114 [(0, (.string x0)), (1, (.string x1))] = some #[(.string x0), (.string x1), .nilIface] := by kernel_rfl
theorem bt133_  : Tryd.prog.built 133 [] = some #[(.string ⟨#[]⟩)] := by kernel_rfl
theorem bt133_0 (x0 : ByteArray) : Tryd.prog.built 133 [(0, (.string x0))] = some #[(.string x0)] := by kernel_rfl
theorem bt134_  : Tryd.prog.built 134 [] = some #[(.string ⟨#[]⟩)] := by kernel_rfl
theorem bt134_0 (x0 : ByteArray) : Tryd.prog.built 134 [(0, (.string x0))] = some #[(.string x0)] := by kernel_rfl
theorem bt141_  : Tryd.prog.built 141 [] = some #[(.int .u8 0), (.int .u8 0)] := by kernel_rfl
theorem bt141_0 (x0 : Int) : Tryd.prog.built 141 [(0, (.int .u8 x0))] = some #[(.int .u8 x0), (.int .u8 0)] := by kernel_rfl
theorem bt141_1 (x1 : Int) : Tryd.prog.built 141 [(1, (.int .u8 x1))] = some #[(.int .u8 0), (.int .u8 x1)] := by kernel_rfl
theorem bt141_01 (x0 : Int) (x1 : Int) : Tryd.prog.built 141 [(0, (.int .u8 x0)), (1, (.int .u8 x1))] = some #[(.int .u8 x0), (.int .u8 x1)] := by kernel_rfl
theorem bt142_  : Tryd.prog.built 142 [] = some #[(.int .u8 0), (.int .u8 0)] := by kernel_rfl
theorem bt142_0 (x0 : Int) : Tryd.prog.built 142 [(0, (.int .u8 x0))] = some #[(.int .u8 x0), (.int .u8 0)] := by kernel_rfl
theorem bt142_1 (x1 : Int) : Tryd.prog.built 142 [(1, (.int .u8 x1))] = some #[(.int .u8 0), (.int .u8 x1)] := by kernel_rfl
theorem bt142_01 (x0 : Int) (x1 : Int) : Tryd.prog.built 142 [(0, (.int .u8 x0)), (1, (.int .u8 x1))] = some #[(.int .u8 x0), (.int .u8 x1)] := by kernel_rfl
theorem bt146_  : Tryd.prog.built 146 [] = some #[(.pointer none), (.pointer none), (.pointer none), (.string ⟨#[]⟩)] := by kernel_rfl
theorem bt146_0 (x0 : Option Addr) : Tryd.prog.built 146 [(0, (.pointer x0))] = some #[(.pointer x0), (.pointer none), (.pointer none), (.string ⟨#[]⟩)] := by kernel_rfl
theorem bt146_1 (x1 : Option Addr) : Tryd.prog.built 146 [(1, (.pointer x1))] = some #[(.pointer none), (.pointer x1), (.pointer none), (.string ⟨#[]⟩)] := by kernel_rfl
theorem bt146_2 (x2 : Option Addr) : Tryd.prog.built 146 [(2, (.pointer x2))] = some #[(.pointer none), (.pointer none), (.pointer x2), (.string ⟨#[]⟩)] := by kernel_rfl
theorem bt146_3 (x3 : ByteArray) : Tryd.prog.built 146 [(3, (.string x3))] = some #[(.pointer none), (.pointer none), (.pointer none), (.string x3)] := by kernel_rfl
theorem bt146_01 (x0 : Option Addr) (x1 : Option Addr) : Tryd.prog.built 146 [(0, (.pointer x0)), (1, (.pointer x1))] = some #[(.pointer x0), (.pointer x1), (.pointer none), (.string ⟨#[]⟩)] := by kernel_rfl
theorem bt146_02 (x0 : Option Addr) (x2 : Option Addr) : Tryd.prog.built 146 [(0, (.pointer x0)), (2, (.pointer x2))] = some #[(.pointer x0), (.pointer none), (.pointer x2), (.string ⟨#[]⟩)] := by kernel_rfl
theorem bt146_03 (x0 : Option Addr) (x3 : ByteArray) : Tryd.prog.built 146 [(0, (.pointer x0)), (3, (.string x3))] = some #[(.pointer x0), (.pointer none), (.pointer none), (.string x3)] := by kernel_rfl
theorem bt146_12 (x1 : Option Addr) (x2 : Option Addr) : Tryd.prog.built 146 [(1, (.pointer x1)), (2, (.pointer x2))] = some #[(.pointer none), (.pointer x1), (.pointer x2), (.string ⟨#[]⟩)] := by kernel_rfl
theorem bt146_13 (x1 : Option Addr) (x3 : ByteArray) : Tryd.prog.built 146 [(1, (.pointer x1)), (3, (.string x3))] = some #[(.pointer none), (.pointer x1), (.pointer none), (.string x3)] := by kernel_rfl
theorem bt146_23 (x2 : Option Addr) (x3 : ByteArray) : Tryd.prog.built 146 [(2, (.pointer x2)), (3, (.string x3))] = some #[(.pointer none), (.pointer none), (.pointer x2), (.string x3)] := by kernel_rfl
theorem bt146_012 (x0 : Option Addr) (x1 : Option Addr) (x2 : Option Addr) : Tryd.prog.built 146 [(0, (.pointer x0)), (1, (.pointer x1)), (2, (.pointer x2))] = some #[(.pointer x0), (.pointer x1), (.pointer x2), (.string ⟨#[]⟩)] := by kernel_rfl
theorem bt146_013 (x0 : Option Addr) (x1 : Option Addr) (x3 : ByteArray) : Tryd.prog.built 146 [(0, (.pointer x0)), (1, (.pointer x1)), (3, (.string x3))] = some #[(.pointer x0), (.pointer x1), (.pointer none), (.string x3)] := by kernel_rfl
theorem bt146_023 (x0 : Option Addr) (x2 : Option Addr) (x3 : ByteArray) : Tryd.prog.built 146 [(0, (.pointer x0)), (2, (.pointer x2)), (3, (.string x3))] = some #[(.pointer x0), (.pointer none), (.pointer x2), (.string x3)] := by kernel_rfl
theorem bt146_123 (x1 : Option Addr) (x2 : Option Addr) (x3 : ByteArray) : Tryd.prog.built 146 [(1, (.pointer x1)), (2, (.pointer x2)), (3, (.string x3))] = some #[(.pointer none), (.pointer x1), (.pointer x2), (.string x3)] := by kernel_rfl
theorem bt146_0123 (x0 : Option Addr) (x1 : Option Addr) (x2 : Option Addr) (x3 : ByteArray) : Tryd.prog.built 146 [(0, (.pointer x0)), (1, (.pointer x1)), (2, (.pointer x2)), (3, (.string x3))] = some #[(.pointer x0), (.pointer x1), (.pointer x2), (.string x3)] := by kernel_rfl
theorem bt147_  : Tryd.prog.built 147 [] = some #[(.pointer none), (.pointer none), (.pointer none), (.string ⟨#[]⟩)] := by kernel_rfl
theorem bt147_0 (x0 : Option Addr) : Tryd.prog.built 147 [(0, (.pointer x0))] = some #[(.pointer x0), (.pointer none), (.pointer none), (.string ⟨#[]⟩)] := by kernel_rfl
theorem bt147_1 (x1 : Option Addr) : Tryd.prog.built 147 [(1, (.pointer x1))] = some #[(.pointer none), (.pointer x1), (.pointer none), (.string ⟨#[]⟩)] := by kernel_rfl
theorem bt147_2 (x2 : Option Addr) : Tryd.prog.built 147 [(2, (.pointer x2))] = some #[(.pointer none), (.pointer none), (.pointer x2), (.string ⟨#[]⟩)] := by kernel_rfl
theorem bt147_3 (x3 : ByteArray) : Tryd.prog.built 147 [(3, (.string x3))] = some #[(.pointer none), (.pointer none), (.pointer none), (.string x3)] := by kernel_rfl
theorem bt147_01 (x0 : Option Addr) (x1 : Option Addr) : Tryd.prog.built 147 [(0, (.pointer x0)), (1, (.pointer x1))] = some #[(.pointer x0), (.pointer x1), (.pointer none), (.string ⟨#[]⟩)] := by kernel_rfl
theorem bt147_02 (x0 : Option Addr) (x2 : Option Addr) : Tryd.prog.built 147 [(0, (.pointer x0)), (2, (.pointer x2))] = some #[(.pointer x0), (.pointer none), (.pointer x2), (.string ⟨#[]⟩)] := by kernel_rfl
theorem bt147_03 (x0 : Option Addr) (x3 : ByteArray) : Tryd.prog.built 147 [(0, (.pointer x0)), (3, (.string x3))] = some #[(.pointer x0), (.pointer none), (.pointer none), (.string x3)] := by kernel_rfl
theorem bt147_12 (x1 : Option Addr) (x2 : Option Addr) : Tryd.prog.built 147 [(1, (.pointer x1)), (2, (.pointer x2))] = some #[(.pointer none), (.pointer x1), (.pointer x2), (.string ⟨#[]⟩)] := by kernel_rfl
theorem bt147_13 (x1 : Option Addr) (x3 : ByteArray) : Tryd.prog.built 147 [(1, (.pointer x1)), (3, (.string x3))] = some #[(.pointer none), (.pointer x1), (.pointer none), (.string x3)] := by kernel_rfl
theorem bt147_23 (x2 : Option Addr) (x3 : ByteArray) : Tryd.prog.built 147 [(2, (.pointer x2)), (3, (.string x3))] = some #[(.pointer none), (.pointer none), (.pointer x2), (.string x3)] := by kernel_rfl
theorem bt147_012 (x0 : Option Addr) (x1 : Option Addr) (x2 : Option Addr) : Tryd.prog.built 147 [(0, (.pointer x0)), (1, (.pointer x1)), (2, (.pointer x2))] = some #[(.pointer x0), (.pointer x1), (.pointer x2), (.string ⟨#[]⟩)] := by kernel_rfl
theorem bt147_013 (x0 : Option Addr) (x1 : Option Addr) (x3 : ByteArray) : Tryd.prog.built 147 [(0, (.pointer x0)), (1, (.pointer x1)), (3, (.string x3))] = some #[(.pointer x0), (.pointer x1), (.pointer none), (.string x3)] := by kernel_rfl
theorem bt147_023 (x0 : Option Addr) (x2 : Option Addr) (x3 : ByteArray) : Tryd.prog.built 147 [(0, (.pointer x0)), (2, (.pointer x2)), (3, (.string x3))] = some #[(.pointer x0), (.pointer none), (.pointer x2), (.string x3)] := by kernel_rfl
theorem bt147_123 (x1 : Option Addr) (x2 : Option Addr) (x3 : ByteArray) : Tryd.prog.built 147 [(1, (.pointer x1)), (2, (.pointer x2)), (3, (.string x3))] = some #[(.pointer none), (.pointer x1), (.pointer x2), (.string x3)] := by kernel_rfl
theorem bt147_0123 (x0 : Option Addr) (x1 : Option Addr) (x2 : Option Addr) (x3 : ByteArray) : Tryd.prog.built 147 [(0, (.pointer x0)), (1, (.pointer x1)), (2, (.pointer x2)), (3, (.string x3))] = some #[(.pointer x0), (.pointer x1), (.pointer x2), (.string x3)] := by kernel_rfl
theorem bt149_  : Tryd.prog.built 149 [] = some #[] := by kernel_rfl
theorem bt150_  : Tryd.prog.built 150 [] = some #[] := by kernel_rfl
attribute [go_sem] bt7_ bt7_0 bt7_1 bt7_2 bt7_3 bt7_01 bt7_02 bt7_03 bt7_12 bt7_13 bt7_23 bt7_012 bt7_013 bt7_023 bt7_123 bt7_0123 bt8_ bt8_0 bt8_1 bt8_2 bt8_3 bt8_01 bt8_02 bt8_03 bt8_12 bt8_13 bt8_23 bt8_012 bt8_013 bt8_023 bt8_123 bt8_0123 bt13_ bt13_0 bt13_1 bt13_01 bt14_ bt14_0 bt14_1 bt14_01 bt18_ bt18_0 bt19_ bt19_0 bs53_0 bs53_1 bs53_2 bs53_3 bs53_4 bs53_5 bs53_6 bt23_ bt23_0 bt23_1 bt23_01 bt24_ bt24_0 bt24_1 bt24_01 bs54_0 bs54_1 bs54_2 bs54_3 bs54_4 bs54_5 bs54_6 bt29_ bt29_0 bt29_1 bt29_01 bt30_ bt30_0 bt30_1 bt30_01 bs9_0 bs9_1 bs9_2 bs9_3 bs9_4 bs9_5 bs9_6 bt53_ bt53_0 bt53_1 bt53_2 bt53_01 bt53_02 bt53_12 bt53_012 bt54_ bt54_0 bt54_1 bt54_2 bt54_01 bt54_02 bt54_12 bt54_012 bs5_0 bs5_1 bs5_2 bs5_3 bs5_4 bs5_5 bs5_6 bs2_0 bs2_1 bs2_2 bs2_3 bs2_4 bs2_5 bs2_6 bt103_ bt103_0 bt103_1 bt103_01 bt104_ bt104_0 bt104_1 bt104_01 bt113_ bt113_0 bt113_1 bt113_01 bt114_ bt114_0 bt114_1 bt114_01 bt133_ bt133_0 bt134_ bt134_0 bt141_ bt141_0 bt141_1 bt141_01 bt142_ bt142_0 bt142_1 bt142_01 bt146_ bt146_0 bt146_1 bt146_2 bt146_3 bt146_01 bt146_02 bt146_03 bt146_12 bt146_13 bt146_23 bt146_012 bt146_013 bt146_023 bt146_123 bt146_0123 bt147_ bt147_0 bt147_1 bt147_2 bt147_3 bt147_01 bt147_02 bt147_03 bt147_12 bt147_13 bt147_23 bt147_012 bt147_013 bt147_023 bt147_123 bt147_0123 bt149_ bt150_
attribute [go_sem] ti2 zok2 Tryd.underlying2 ti3 zok3 Tryd.underlying3 ti4 zok4 Tryd.underlying4 ti5 zok5 Tryd.underlying5 ti6 zok6 Tryd.underlying6 ti7 zok7 Tryd.underlying7 ti8 zok8 Tryd.underlying8 ti9 zok9 Tryd.underlying9 ti10 zok10 Tryd.underlying10 ti11 zok11 Tryd.underlying11 ti12 zok12 Tryd.underlying12 ti13 zok13 Tryd.underlying13 ti14 zok14 Tryd.underlying14 ti15 zok15 Tryd.underlying15 ti16 zok16 Tryd.underlying16 ti17 zok17 Tryd.underlying17 ti18 zok18 Tryd.underlying18 ti19 zok19 Tryd.underlying19 ti21 zok21 Tryd.underlying21 ti22 zok22 Tryd.underlying22 ti23 zok23 Tryd.underlying23 ti24 zok24 Tryd.underlying24 ti28 zok28 Tryd.underlying28 ti29 zok29 Tryd.underlying29 ti30 zok30 Tryd.underlying30 ti51 zok51 Tryd.underlying51 ti53 zok53 Tryd.underlying53 ti54 zok54 Tryd.underlying54 ti74 zok74 Tryd.underlying74 ti76 zok76 Tryd.underlying76 ti81 zok81 Tryd.underlying81 ti82 zok82 Tryd.underlying82 ti85 zok85 Tryd.underlying85 ti86 zok86 Tryd.underlying86 ti91 zok91 Tryd.underlying91 ti97 zok97 Tryd.underlying97 ti102 zok102 Tryd.underlying102 ti103 zok103 Tryd.underlying103 ti104 zok104 Tryd.underlying104 ti113 zok113 Tryd.underlying113 ti114 zok114 Tryd.underlying114 ti120 zok120 Tryd.underlying120 ti121 zok121 Tryd.underlying121 ti122 zok122 Tryd.underlying122 ti124 zok124 Tryd.underlying124 ti125 zok125 Tryd.underlying125 ti126 zok126 Tryd.underlying126 ti129 zok129 Tryd.underlying129 ti132 zok132 Tryd.underlying132 ti133 zok133 Tryd.underlying133 ti134 zok134 Tryd.underlying134 ti140 zok140 Tryd.underlying140 ti141 zok141 Tryd.underlying141 ti142 zok142 Tryd.underlying142 ti143 zok143 Tryd.underlying143 ti144 zok144 Tryd.underlying144 ti145 zok145 Tryd.underlying145 ti146 zok146 Tryd.underlying146 ti147 zok147 Tryd.underlying147 ti148 zok148 Tryd.underlying148 ti149 zok149 Tryd.underlying149 ti150 zok150 Tryd.underlying150 ti152 zok152 Tryd.underlying152 ti153 zok153 Tryd.underlying153 ti155 zok155 Tryd.underlying155 ti156 zok156 Tryd.underlying156 ti157 zok157 Tryd.underlying157 ti158 zok158 Tryd.underlying158
end Go.Proofs.YtkimaohcmcfcnaaDoor
end

section
namespace Go.Proofs.YtkimaohcmcfcnaaDoor
open Go.Ab
theorem own : ownKnob Tryd.prog.godebug = none := by kernel_rfl
theorem laidOut : laidOutB Tryd.prog = true := by kernel_rfl
theorem mixed : Tryd.prog.follows .mixedOrders = true := by kernel_rfl
theorem head_io : Tryd.prog.initOrder = "harness" ++ (" " ++ ("5fcb91f2498d60155cc8d3d3315fa71196327347ab7ae9ac9bd5d8a09adf0f8b" ++ (" " ++ ("cut" ++ (" " ++ ("at" ++ (" " ++ "loop.example/g01355/laws.FnExactSystemText loop.example/g01355/laws.FnExactParseSystem"))))))) := by kernel_rfl
theorem head_ws : behindMainWord (wordsSigns Tryd.prog.initOrder.toList) = "cut".toList :: "at".toList :: wordsSigns "loop.example/g01355/laws.FnExactSystemText loop.example/g01355/laws.FnExactParseSystem".toList :=
  cut_words head_io (by kernel_rfl) (by kernel_rfl) (by kernel_rfl) (by kernel_rfl) (by kernel_rfl) (by kernel_rfl)
theorem mkFact : Tryd.prog.make = some .cut := make_of head_ws (by kernel_rfl) (by kernel_rfl)
theorem liftFact : Tryd.prog.liftsFinal = false := liftsFinal_of head_ws
theorem enterFact : Tryd.prog.mayEnter = true := mayEnter_of head_ws (by kernel_rfl) (by kernel_rfl) (by kernel_rfl)
theorem rowedFact : mapsRowed Tryd.prog = true := by kernel_rfl
theorem heardFact : Tryd.prog.stopsHeard = true := by kernel_rfl
end Go.Proofs.YtkimaohcmcfcnaaDoor
end

section
namespace Go.Proofs.YtkimaohcmcfcnaaDoor
open Go.Shelf
def laysC174R : Go.Shelf.Ren := ⟨fun | 174 => 23 | 247 => 42 | 245 => 43 | 287 => 54 | 279 => 55 | 280 => 56 | 281 => 57 | 282 => 58 | 321 => 78 | 322 => 79 | 316 => 80 | 171 => 82 | 205 => 81 | 243 => 96 | 246 => 50 | 283 => 67 | 284 => 68 | 285 => 69 | 286 => 70 | 129 => 88 | 317 => 87 | 318 => 89 | 319 => 90 | 320 => 91 | 337 => 99 | 338 => 100 | n => n, fun | 9 => 9 | 3 => 3 | 2 => 2 | 75 => 48 | 85 => 49 | 4 => 4 | 167 => 81 | 5 => 5 | 53 => 82 | 175 => 83 | 46 => 85 | 168 => 86 | 37 => 74 | 0 => 0 | 210 => 114 | 21 => 21 | 127 => 129 | 145 => 134 | 143 => 132 | 171 => 97 | 173 => 100 | 212 => 124 | 51 => 125 | 20 => 20 | 213 => 126 | 232 => 144 | 233 => 145 | 80 => 108 | n => n, fun | 15 => 1 | 16 => 2 | 17 => 3 | 18 => 6 | 19 => 7 | n => n⟩
theorem laysC174 : Go.Proofs.LaysC.n174 Tryd.prog laysC174R := {
  mixed := by kernel_rfl
  f129 := Tryd.func88.trans (congrArg some (by kernel_rfl))
  f171 := Tryd.func82.trans (congrArg some (by kernel_rfl))
  f174 := Tryd.func23.trans (congrArg some (by kernel_rfl))
  f205 := Tryd.func81.trans (congrArg some (by kernel_rfl))
  f243 := Tryd.func96.trans (congrArg some (by kernel_rfl))
  f245 := Tryd.func43.trans (congrArg some (by kernel_rfl))
  f246 := Tryd.func50.trans (congrArg some (by kernel_rfl))
  f247 := Tryd.func42.trans (congrArg some (by kernel_rfl))
  f279 := Tryd.func55.trans (congrArg some (by kernel_rfl))
  f280 := Tryd.func56.trans (congrArg some (by kernel_rfl))
  f281 := Tryd.func57.trans (congrArg some (by kernel_rfl))
  f282 := Tryd.func58.trans (congrArg some (by kernel_rfl))
  f283 := Tryd.func67.trans (congrArg some (by kernel_rfl))
  f284 := Tryd.func68.trans (congrArg some (by kernel_rfl))
  f285 := Tryd.func69.trans (congrArg some (by kernel_rfl))
  f286 := Tryd.func70.trans (congrArg some (by kernel_rfl))
  f287 := Tryd.func54.trans (congrArg some (by kernel_rfl))
  f316 := Tryd.func80.trans (congrArg some (by kernel_rfl))
  f317 := Tryd.func87.trans (congrArg some (by kernel_rfl))
  f318 := Tryd.func89.trans (congrArg some (by kernel_rfl))
  f319 := Tryd.func90.trans (congrArg some (by kernel_rfl))
  f320 := Tryd.func91.trans (congrArg some (by kernel_rfl))
  f321 := Tryd.func78.trans (congrArg some (by kernel_rfl))
  f322 := Tryd.func79.trans (congrArg some (by kernel_rfl))
  f337 := Tryd.func99.trans (congrArg some (by kernel_rfl))
  f338 := Tryd.func100.trans (congrArg some (by kernel_rfl))
  t0 := Tryd.underlying0
  a0 := Tryd.isAgg0
  z0 := Tryd.sizeOf0
  v0 := Tryd.zeroValue0
  t2 := Tryd.underlying2
  a2 := Tryd.isAgg2
  z2 := Tryd.sizeOf2
  v2 := Tryd.zeroValue2
  t3 := Tryd.underlying3
  a3 := Tryd.isAgg3
  z3 := Tryd.sizeOf3
  v3 := Tryd.zeroValue3
  t4 := Tryd.underlying4
  a4 := Tryd.isAgg4
  z4 := Tryd.sizeOf4
  v4 := Tryd.zeroValue4
  t5 := Tryd.underlying5
  a5 := Tryd.isAgg5
  z5 := Tryd.sizeOf5
  v5 := Tryd.zeroValue5
  t9 := Tryd.underlying9
  a9 := Tryd.isAgg9
  z9 := Tryd.sizeOf9
  v9 := Tryd.zeroValue9
  t20 := Tryd.underlying20
  a20 := Tryd.isAgg20
  z20 := Tryd.sizeOf20
  v20 := Tryd.zeroValue20
  t21 := Tryd.underlying21
  a21 := Tryd.isAgg21
  z21 := Tryd.sizeOf21
  v21 := Tryd.zeroValue21
  t37 := Tryd.underlying74
  a37 := Tryd.isAgg74
  z37 := Tryd.sizeOf74
  v37 := Tryd.zeroValue74
  t46 := Tryd.underlying85
  a46 := Tryd.isAgg85
  z46 := Tryd.sizeOf85
  v46 := Tryd.zeroValue85
  t51 := Tryd.underlying125
  a51 := Tryd.isAgg125
  z51 := Tryd.sizeOf125
  v51 := Tryd.zeroValue125
  t53 := Tryd.underlying82
  a53 := Tryd.isAgg82
  z53 := Tryd.sizeOf82
  v53 := Tryd.zeroValue82
  t75 := Tryd.underlying48
  a75 := Tryd.isAgg48
  z75 := Tryd.sizeOf48
  v75 := Tryd.zeroValue48
  t85 := Tryd.underlying49
  a85 := Tryd.isAgg49
  z85 := Tryd.sizeOf49
  v85 := Tryd.zeroValue49
  t127 := Tryd.underlying129
  a127 := Tryd.isAgg129
  z127 := Tryd.sizeOf129
  v127 := Tryd.zeroValue129
  t143 := Tryd.underlying132
  a143 := Tryd.isAgg132
  z143 := Tryd.sizeOf132
  v143 := Tryd.zeroValue132
  t145 := Tryd.underlying134
  a145 := Tryd.isAgg134
  z145 := Tryd.sizeOf134
  v145 := Tryd.zeroValue134
  t167 := Tryd.underlying81
  a167 := Tryd.isAgg81
  z167 := Tryd.sizeOf81
  v167 := Tryd.zeroValue81
  t168 := Tryd.underlying86
  a168 := Tryd.isAgg86
  z168 := Tryd.sizeOf86
  v168 := Tryd.zeroValue86
  t171 := Tryd.underlying97
  a171 := Tryd.isAgg97
  z171 := Tryd.sizeOf97
  v171 := Tryd.zeroValue97
  t173 := Tryd.underlying100
  a173 := Tryd.isAgg100
  z173 := Tryd.sizeOf100
  v173 := Tryd.zeroValue100
  t175 := Tryd.underlying83
  a175 := Tryd.isAgg83
  z175 := Tryd.sizeOf83
  v175 := Tryd.zeroValue83
  t210 := Tryd.underlying114
  a210 := Tryd.isAgg114
  z210 := Tryd.sizeOf114
  v210 := Tryd.zeroValue114
  t212 := Tryd.underlying124
  a212 := Tryd.isAgg124
  z212 := Tryd.sizeOf124
  v212 := Tryd.zeroValue124
  t213 := Tryd.underlying126
  a213 := Tryd.isAgg126
  z213 := Tryd.sizeOf126
  t232 := Tryd.underlying144
  a232 := Tryd.isAgg144
  z232 := Tryd.sizeOf144
  v232 := Tryd.zeroValue144
  t233 := Tryd.underlying145
  a233 := Tryd.isAgg145
  z233 := Tryd.sizeOf145
  v233 := Tryd.zeroValue145
  g15 := by kernel_rfl
  g16 := by kernel_rfl
  g17 := by kernel_rfl
  g18 := by kernel_rfl
  g19 := by kernel_rfl
  t80 := Tryd.underlying108
  a80 := Tryd.isAgg108
  z80 := Tryd.sizeOf108
  v80 := Tryd.zeroValue108
  i0 := by kernel_rfl
  i2 := by kernel_rfl
  i3 := by kernel_rfl
  i4 := by kernel_rfl
  i5 := by kernel_rfl
  i9 := by kernel_rfl
  i20 := by kernel_rfl
  i21 := by kernel_rfl
  i37 := by kernel_rfl
  i46 := by kernel_rfl
  i51 := by kernel_rfl
  i53 := by kernel_rfl
  i75 := by kernel_rfl
  i80 := by kernel_rfl
  i85 := by kernel_rfl
  i127 := by kernel_rfl
  i143 := by kernel_rfl
  i145 := by kernel_rfl
  i167 := by kernel_rfl
  i168 := by kernel_rfl
  i171 := by kernel_rfl
  i173 := by kernel_rfl
  i175 := by kernel_rfl
  i210 := by kernel_rfl
  i212 := by kernel_rfl
  i232 := by kernel_rfl
  i233 := by kernel_rfl
  m15 := by kernel_rfl
  m16 := by kernel_rfl
  m17 := by kernel_rfl
  m18 := by kernel_rfl
  m19 := by kernel_rfl
  c0 := by kernel_rfl
  c2 := by kernel_rfl
  c3 := by kernel_rfl
  c4 := by kernel_rfl
  c5 := by kernel_rfl
  c9 := by kernel_rfl
  c20 := by kernel_rfl
  c21 := by kernel_rfl
  c37 := by kernel_rfl
  c46 := by kernel_rfl
  c51 := by kernel_rfl
  c53 := by kernel_rfl
  c75 := by kernel_rfl
  c80 := by kernel_rfl
  c85 := by kernel_rfl
  c127 := by kernel_rfl
  c143 := by kernel_rfl
  c145 := by kernel_rfl
  c167 := by kernel_rfl
  c168 := by kernel_rfl
  c171 := by kernel_rfl
  c173 := by kernel_rfl
  c175 := by kernel_rfl
  c210 := by kernel_rfl
  c212 := by kernel_rfl
  c213 := by kernel_rfl
  c232 := by kernel_rfl
  c233 := by kernel_rfl }
open Go.RowKit in
theorem parseOk_c (s : ByteArray) (hmax : s.size <= 9223372036854775806) (v : Int) (h : Lib.parseIntB 64 s.data.toList = .ok v) (w : World) :
    Calls Tryd.prog 23 #[.string s, .int .i64 10, .int .i64 64] w fun e w' => e = .returned (.tuple #[.int .i64 v, .nilIface]) /\ (w' = w \/ ∃ t, w' = Lib.bytesWorld w 5 t) := Any.strconv_ParseInt_10_at64_ok laysC174 s hmax v h w
theorem parseNone_c (s : ByteArray) (hlim : s.size <= 281474976710656) (h : ∀ v, Lib.parseIntB 64 s.data.toList ≠ .ok v) (ev1 ev2 : Value) (w : World)
    (hv1 : w.cell? ⟨1, 0, none⟩ = some ev1) (hev1 : ev1 = .nilIface \/ ∃ te pe, ev1 = .iface te pe) (hv2 : w.cell? ⟨2, 0, none⟩ = some ev2) (hev2 : ev2 = .nilIface \/ ∃ te pe, ev2 = .iface te pe) :
    Calls Tryd.prog 23 #[.string s, .int .i64 10, .int .i64 64] w fun e w' => ∃ N x, e = .returned (.tuple #[.int .i64 x, .iface 86 (.pointer (some ⟨N, 0, none⟩))]) /\ Go.RowKit.Below w.heap.size w w' := by
  cases hp : Lib.parseIntB 64 s.data.toList
  · exact absurd hp (h _)
  · exact (Any.strconv_ParseInt_10_at64_syntax laysC174 s hlim hp ev1 w hv1 hev1).mono (by rintro e W ⟨N, rfl, _, _, hb⟩; exact ⟨N, _, rfl, hb⟩)
  · exact (Any.strconv_ParseInt_10_at64_range laysC174 s hlim hp ev2 w hv2 hev2).mono (by rintro e W ⟨N, rfl, _, _, hb⟩; exact ⟨N, _, rfl, hb⟩)
def lays145R : Go.Shelf.Ren := ⟨fun | 145 => 22 | 220 => 41 | 219 => 53 | 217 => 74 | 225 => 75 | 224 => 76 | 267 => 77 | 266 => 94 | 314 => 95 | n => n, fun | 9 => 9 | 4 => 4 | 59 => 45 | 3 => 3 | 5 => 5 | 46 => 85 | 146 => 130 | 51 => 125 | n => n, fun | 1 => 0 | n => n⟩
theorem lays145 : Go.Proofs.Lays.n145 Tryd.prog lays145R := {
  mixed := by kernel_rfl
  f145 := Tryd.func22.trans (congrArg some (by kernel_rfl))
  f217 := Tryd.func74.trans (congrArg some (by kernel_rfl))
  f219 := Tryd.func53.trans (congrArg some (by kernel_rfl))
  f220 := Tryd.func41.trans (congrArg some (by kernel_rfl))
  f224 := Tryd.func76.trans (congrArg some (by kernel_rfl))
  f225 := Tryd.func75.trans (congrArg some (by kernel_rfl))
  f266 := Tryd.func94.trans (congrArg some (by kernel_rfl))
  f267 := Tryd.func77.trans (congrArg some (by kernel_rfl))
  f314 := Tryd.func95.trans (congrArg some (by kernel_rfl))
  t3 := Tryd.underlying3
  a3 := Tryd.isAgg3
  z3 := Tryd.sizeOf3
  v3 := Tryd.zeroValue3
  t4 := Tryd.underlying4
  a4 := Tryd.isAgg4
  z4 := Tryd.sizeOf4
  v4 := Tryd.zeroValue4
  t5 := Tryd.underlying5
  a5 := Tryd.isAgg5
  z5 := Tryd.sizeOf5
  v5 := Tryd.zeroValue5
  t9 := Tryd.underlying9
  a9 := Tryd.isAgg9
  z9 := Tryd.sizeOf9
  v9 := Tryd.zeroValue9
  t46 := Tryd.underlying85
  a46 := Tryd.isAgg85
  z46 := Tryd.sizeOf85
  v46 := Tryd.zeroValue85
  t51 := Tryd.underlying125
  a51 := Tryd.isAgg125
  z51 := Tryd.sizeOf125
  v51 := Tryd.zeroValue125
  t59 := Tryd.underlying45
  a59 := Tryd.isAgg45
  z59 := Tryd.sizeOf45
  v59 := Tryd.zeroValue45
  t146 := Tryd.underlying130
  a146 := Tryd.isAgg130
  z146 := Tryd.sizeOf130
  v146 := Tryd.zeroValue130
  g1 := by kernel_rfl }
open Go.RowKit Go.Lib in
theorem cut_c (s sep : ByteArray) (m : Int) (w : World) (hs : s.size < 4294967281) (hm : w.cell? ⟨0, 0, none⟩ = some (.int .i64 m)) :
    Calls Tryd.prog 22 #[.string s, .string sep] w fun e w' => e = .returned (.tuple #[.string ⟨(Lib.cut s.data.toList sep.data.toList).1.toArray⟩, .string ⟨(Lib.cut s.data.toList sep.data.toList).2.1.toArray⟩, .bool (Lib.cut s.data.toList sep.data.toList).2.2]) /\ ∃ n, w' = w.drewN n := Any.strings_Cut lays145 s sep m w hs hm
def lays146R : Go.Shelf.Ren := ⟨fun | 146 => 24 | 221 => 44 | 268 => 59 | 138 => 60 | 143 => 61 | 195 => 83 | 197 => 84 | 218 => 85 | 219 => 53 | 260 => 97 | 217 => 74 | 225 => 75 | 224 => 76 | 267 => 77 | 266 => 94 | 314 => 95 | n => n, fun | 9 => 9 | 31 => 51 | 3 => 3 | 4 => 4 | 0 => 0 | 105 => 117 | 21 => 21 | 5 => 5 | 46 => 85 | 119 => 140 | 139 => 143 | 138 => 142 | 146 => 130 | 51 => 125 | n => n, fun | 1 => 0 | 3 => 4 | 4 => 5 | n => n⟩
theorem lays146 : Go.Proofs.Lays.n146 Tryd.prog lays146R := {
  mixed := by kernel_rfl
  f138 := Tryd.func60.trans (congrArg some (by kernel_rfl))
  f143 := Tryd.func61.trans (congrArg some (by kernel_rfl))
  f146 := Tryd.func24.trans (congrArg some (by kernel_rfl))
  f195 := Tryd.func83.trans (congrArg some (by kernel_rfl))
  f197 := Tryd.func84.trans (congrArg some (by kernel_rfl))
  f217 := Tryd.func74.trans (congrArg some (by kernel_rfl))
  f218 := Tryd.func85.trans (congrArg some (by kernel_rfl))
  f219 := Tryd.func53.trans (congrArg some (by kernel_rfl))
  f221 := Tryd.func44.trans (congrArg some (by kernel_rfl))
  f224 := Tryd.func76.trans (congrArg some (by kernel_rfl))
  f225 := Tryd.func75.trans (congrArg some (by kernel_rfl))
  f260 := Tryd.func97.trans (congrArg some (by kernel_rfl))
  f266 := Tryd.func94.trans (congrArg some (by kernel_rfl))
  f267 := Tryd.func77.trans (congrArg some (by kernel_rfl))
  f268 := Tryd.func59.trans (congrArg some (by kernel_rfl))
  f314 := Tryd.func95.trans (congrArg some (by kernel_rfl))
  t0 := Tryd.underlying0
  a0 := Tryd.isAgg0
  z0 := Tryd.sizeOf0
  v0 := Tryd.zeroValue0
  t3 := Tryd.underlying3
  a3 := Tryd.isAgg3
  z3 := Tryd.sizeOf3
  v3 := Tryd.zeroValue3
  t4 := Tryd.underlying4
  a4 := Tryd.isAgg4
  z4 := Tryd.sizeOf4
  v4 := Tryd.zeroValue4
  t5 := Tryd.underlying5
  a5 := Tryd.isAgg5
  z5 := Tryd.sizeOf5
  v5 := Tryd.zeroValue5
  t9 := Tryd.underlying9
  a9 := Tryd.isAgg9
  z9 := Tryd.sizeOf9
  v9 := Tryd.zeroValue9
  t21 := Tryd.underlying21
  a21 := Tryd.isAgg21
  z21 := Tryd.sizeOf21
  v21 := Tryd.zeroValue21
  t31 := Tryd.underlying51
  a31 := Tryd.isAgg51
  z31 := Tryd.sizeOf51
  v31 := Tryd.zeroValue51
  t46 := Tryd.underlying85
  a46 := Tryd.isAgg85
  z46 := Tryd.sizeOf85
  v46 := Tryd.zeroValue85
  t51 := Tryd.underlying125
  a51 := Tryd.isAgg125
  z51 := Tryd.sizeOf125
  v51 := Tryd.zeroValue125
  t105 := Tryd.underlying117
  a105 := Tryd.isAgg117
  z105 := Tryd.sizeOf117
  v105 := Tryd.zeroValue117
  t119 := Tryd.underlying140
  a119 := Tryd.isAgg140
  z119 := Tryd.sizeOf140
  t138 := Tryd.underlying142
  a138 := Tryd.isAgg142
  z138 := Tryd.sizeOf142
  v138 := Tryd.zeroValue142
  t139 := Tryd.underlying143
  a139 := Tryd.isAgg143
  z139 := Tryd.sizeOf143
  v139 := Tryd.zeroValue143
  t146 := Tryd.underlying130
  a146 := Tryd.isAgg130
  z146 := Tryd.sizeOf130
  v146 := Tryd.zeroValue130
  g1 := by kernel_rfl
  g3 := by kernel_rfl
  g4 := by kernel_rfl }
open Go.RowKit Go.Lib in
theorem split_c (s sep : ByteArray) (m : Int) (w : World) (hs : s.size < 4294967281) (hm : w.cell? ⟨0, 0, none⟩ = some (.int .i64 m)) (h1 : 1 <= sep.size) :
    Calls Tryd.prog 24 #[.string s, .string sep] w fun e w' =>
      e = .returned (.slice (some ⟨w.heap.size, 0, none⟩) (Lib.countB s sep + 1) (Lib.countB s sep + 1)) /\ w' = w.alloc (.cells ((Lib.splitB sep 0 (Lib.countB s sep) s).map Value.string).toArray 9) := Any.strings_Split lays146 (by kernel_rfl) s sep m w hs hm h1
end Go.Proofs.YtkimaohcmcfcnaaDoor
end

section
namespace Go.Proofs.YtkimaohcmcfcnaaDoor
open Go.Shelf
def lays156R : Go.Shelf.Ren := ⟨fun | 156 => 52 | 165 => 71 | 166 => 72 | 169 => 73 | 240 => 92 | 241 => 93 | 276 => 101 | 277 => 102 | n => n, fun | 31 => 51 | 9 => 9 | 3 => 3 | 4 => 4 | 0 => 0 | 20 => 20 | 72 => 104 | 76 => 106 | 70 => 102 | 37 => 74 | 75 => 48 | 127 => 129 | 164 => 137 | 5 => 5 | 80 => 108 | n => n, fun | n => n⟩
theorem lays156 : Go.Proofs.Lays.n156 Tryd.prog lays156R := {
  mixed := by kernel_rfl
  f156 := Tryd.func52.trans (congrArg some (by kernel_rfl))
  f165 := Tryd.func71.trans (congrArg some (by kernel_rfl))
  f166 := Tryd.func72.trans (congrArg some (by kernel_rfl))
  f169 := Tryd.func73.trans (congrArg some (by kernel_rfl))
  f240 := Tryd.func92.trans (congrArg some (by kernel_rfl))
  f241 := Tryd.func93.trans (congrArg some (by kernel_rfl))
  f276 := Tryd.func101.trans (congrArg some (by kernel_rfl))
  f277 := Tryd.func102.trans (congrArg some (by kernel_rfl))
  t0 := Tryd.underlying0
  a0 := Tryd.isAgg0
  z0 := Tryd.sizeOf0
  v0 := Tryd.zeroValue0
  t3 := Tryd.underlying3
  a3 := Tryd.isAgg3
  z3 := Tryd.sizeOf3
  v3 := Tryd.zeroValue3
  t4 := Tryd.underlying4
  a4 := Tryd.isAgg4
  z4 := Tryd.sizeOf4
  v4 := Tryd.zeroValue4
  t9 := Tryd.underlying9
  a9 := Tryd.isAgg9
  z9 := Tryd.sizeOf9
  v9 := Tryd.zeroValue9
  t20 := Tryd.underlying20
  a20 := Tryd.isAgg20
  z20 := Tryd.sizeOf20
  v20 := Tryd.zeroValue20
  t31 := Tryd.underlying51
  a31 := Tryd.isAgg51
  z31 := Tryd.sizeOf51
  v31 := Tryd.zeroValue51
  t37 := Tryd.underlying74
  a37 := Tryd.isAgg74
  z37 := Tryd.sizeOf74
  v37 := Tryd.zeroValue74
  t70 := Tryd.underlying102
  a70 := Tryd.isAgg102
  z70 := Tryd.sizeOf102
  v70 := Tryd.zeroValue102
  t72 := Tryd.underlying104
  a72 := Tryd.isAgg104
  z72 := Tryd.sizeOf104
  v72 := Tryd.zeroValue104
  t75 := Tryd.underlying48
  a75 := Tryd.isAgg48
  z75 := Tryd.sizeOf48
  v75 := Tryd.zeroValue48
  t76 := Tryd.underlying106
  a76 := Tryd.isAgg106
  z76 := Tryd.sizeOf106
  v76 := Tryd.zeroValue106
  t127 := Tryd.underlying129
  a127 := Tryd.isAgg129
  z127 := Tryd.sizeOf129
  v127 := Tryd.zeroValue129
  t164 := Tryd.underlying137
  a164 := Tryd.isAgg137
  z164 := Tryd.sizeOf137
  v164 := Tryd.zeroValue137 }
theorem builderX156 : Go.Proofs.Builder.Extra Tryd.prog lays156R := {
  sizeBuilder := by kernel_rfl
  liesBuilder := by kernel_rfl
  t5 := Tryd.underlying5
  a5 := Tryd.isAgg5
  z5 := Tryd.sizeOf5
  v5 := Tryd.zeroValue5
  infoByte := by kernel_rfl
  cellsByte := by kernel_rfl
  sizeByte := by kernel_rfl
  neB5 := by decide }
open Go.RowKit in
theorem joinNone_c (a : Option Addr) (c : Nat) (sep : ByteArray) (w : World) :
    Calls Tryd.prog 52 #[.slice a 0 c, .string sep] w fun e w' => e = .returned (.string ⟨#[]⟩) /\ w' = w := Any.strings_Join_none lays156 builderX156 a c sep w
open Go.RowKit in
theorem join_c (bk o c : Nat) (xs : List ByteArray) (sep : ByteArray) (w : World) (hcells : ∀ (j : Nat) x, xs[j]? = some x -> w.cell? ⟨bk, o + j, none⟩ = some (.string x)) (hbk : bk < w.heap.size) (hN : xs.length <= 140737488355328) (hcap : xs.length <= c) (hlen : (Lib.join (xs.map (·.data.toList)) sep.data.toList).length <= 140737488355328) :
    Calls Tryd.prog 52 #[.slice (some ⟨bk, o, none⟩) xs.length c, .string sep] w fun e w' => e = .returned (.string ⟨(Lib.join (xs.map (·.data.toList)) sep.data.toList).toArray⟩) /\ Below w.heap.size w w' := Any.strings_Join lays156 builderX156 bk o c xs sep w hcells hbk hN hcap hlen
def lays173R : Go.Shelf.Ren := ⟨fun | 173 => 36 | 246 => 50 | 283 => 67 | 284 => 68 | 285 => 69 | 286 => 70 | 129 => 88 | 317 => 87 | 318 => 89 | 319 => 90 | 320 => 91 | 337 => 99 | 338 => 100 | n => n, fun | 2 => 2 | 3 => 3 | 9 => 9 | 4 => 4 | 171 => 97 | 0 => 0 | 53 => 82 | 37 => 74 | 5 => 5 | 173 => 100 | 212 => 124 | 51 => 125 | 20 => 20 | 213 => 126 | 46 => 85 | 232 => 144 | 233 => 145 | n => n, fun | 17 => 3 | 18 => 6 | 19 => 7 | n => n⟩
theorem lays173 : Go.Proofs.Lays.n173 Tryd.prog lays173R := {
  mixed := by kernel_rfl
  f129 := Tryd.func88.trans (congrArg some (by kernel_rfl))
  f173 := Tryd.func36.trans (congrArg some (by kernel_rfl))
  f246 := Tryd.func50.trans (congrArg some (by kernel_rfl))
  f283 := Tryd.func67.trans (congrArg some (by kernel_rfl))
  f284 := Tryd.func68.trans (congrArg some (by kernel_rfl))
  f285 := Tryd.func69.trans (congrArg some (by kernel_rfl))
  f286 := Tryd.func70.trans (congrArg some (by kernel_rfl))
  f317 := Tryd.func87.trans (congrArg some (by kernel_rfl))
  f318 := Tryd.func89.trans (congrArg some (by kernel_rfl))
  f319 := Tryd.func90.trans (congrArg some (by kernel_rfl))
  f320 := Tryd.func91.trans (congrArg some (by kernel_rfl))
  f337 := Tryd.func99.trans (congrArg some (by kernel_rfl))
  f338 := Tryd.func100.trans (congrArg some (by kernel_rfl))
  t0 := Tryd.underlying0
  a0 := Tryd.isAgg0
  z0 := Tryd.sizeOf0
  v0 := Tryd.zeroValue0
  t2 := Tryd.underlying2
  a2 := Tryd.isAgg2
  z2 := Tryd.sizeOf2
  v2 := Tryd.zeroValue2
  t3 := Tryd.underlying3
  a3 := Tryd.isAgg3
  z3 := Tryd.sizeOf3
  v3 := Tryd.zeroValue3
  t4 := Tryd.underlying4
  a4 := Tryd.isAgg4
  z4 := Tryd.sizeOf4
  v4 := Tryd.zeroValue4
  t5 := Tryd.underlying5
  a5 := Tryd.isAgg5
  z5 := Tryd.sizeOf5
  v5 := Tryd.zeroValue5
  t9 := Tryd.underlying9
  a9 := Tryd.isAgg9
  z9 := Tryd.sizeOf9
  v9 := Tryd.zeroValue9
  t20 := Tryd.underlying20
  a20 := Tryd.isAgg20
  z20 := Tryd.sizeOf20
  v20 := Tryd.zeroValue20
  t37 := Tryd.underlying74
  a37 := Tryd.isAgg74
  z37 := Tryd.sizeOf74
  v37 := Tryd.zeroValue74
  t46 := Tryd.underlying85
  a46 := Tryd.isAgg85
  z46 := Tryd.sizeOf85
  v46 := Tryd.zeroValue85
  t51 := Tryd.underlying125
  a51 := Tryd.isAgg125
  z51 := Tryd.sizeOf125
  v51 := Tryd.zeroValue125
  t53 := Tryd.underlying82
  a53 := Tryd.isAgg82
  z53 := Tryd.sizeOf82
  v53 := Tryd.zeroValue82
  t171 := Tryd.underlying97
  a171 := Tryd.isAgg97
  z171 := Tryd.sizeOf97
  v171 := Tryd.zeroValue97
  t173 := Tryd.underlying100
  a173 := Tryd.isAgg100
  z173 := Tryd.sizeOf100
  v173 := Tryd.zeroValue100
  t212 := Tryd.underlying124
  a212 := Tryd.isAgg124
  z212 := Tryd.sizeOf124
  v212 := Tryd.zeroValue124
  t213 := Tryd.underlying126
  a213 := Tryd.isAgg126
  z213 := Tryd.sizeOf126
  t232 := Tryd.underlying144
  a232 := Tryd.isAgg144
  z232 := Tryd.sizeOf144
  v232 := Tryd.zeroValue144
  t233 := Tryd.underlying145
  a233 := Tryd.isAgg145
  z233 := Tryd.sizeOf145
  v233 := Tryd.zeroValue145
  g17 := by kernel_rfl
  g18 := by kernel_rfl
  g19 := by kernel_rfl }
open Go.RowKit Go.Sort Go.Lib in
theorem formatSmall_c (i : Nat) (hi : i < 100) (w : World) :
    Calls Tryd.prog 36 #[.int .i64 i, .int .i64 10] w fun e w' => e = .returned (.string ⟨(Lib.decDigits i).toArray⟩) /\ w' = w := Any.strconv_FormatInt_10_small lays173 i hi w
end Go.Proofs.YtkimaohcmcfcnaaDoor
end

section
namespace Go.Ab

def Same (S : Nat -> Prop) (H H' : Heap) : Prop := H.length <= H'.length /\ ∀ j, j < H.length -> ¬ S j -> H'[j]? = H[j]?

theorem Same.refl (S : Nat -> Prop) (H : Heap) : Same S H H := ⟨Nat.le_refl _, fun _ _ _ => rfl⟩
theorem Same.trans {S : Nat -> Prop} {H H' H'' : Heap} (h : Same S H H') (h' : Same S H' H'') : Same S H H'' :=
  ⟨Nat.le_trans h.1 h'.1, fun j hj hs => (h'.2 j (Nat.lt_of_lt_of_le hj h.1) hs).trans (h.2 j hj hs)⟩
theorem Same.mono {S T : Nat -> Prop} {H H' : Heap} (h : Same S H H') (hst : ∀ j, j < H.length -> S j -> T j) : Same T H H' :=
  ⟨h.1, fun j hj hs => h.2 j hj fun hS => hs (hst j hj hS)⟩
theorem Same.of_prefix {S : Nat -> Prop} {H H' : Heap} (h : H <+: H') : Same S H H' := by
  obtain ⟨t, rfl⟩ := h
  exact ⟨by simp, fun j hj _ => List.getElem?_append_left hj⟩
theorem Same.prefix {S : Nat -> Prop} {H H' : Heap} (h : Same S H H') (hs : ∀ j, j < H.length -> ¬ S j) : H <+: H' := by
  rw [List.prefix_iff_eq_take]
  apply List.ext_getElem?
  intro j
  by_cases hj : j < H.length
  · rw [List.getElem?_take, if_pos hj, h.2 j hj (hs j hj)]
  · rw [List.getElem?_take, if_neg hj, List.getElem?_eq_none (by omega)]
theorem Same.get {S : Nat -> Prop} {H H' : Heap} (h : Same S H H') {j : Nat} {b : Blk} (hb : H[j]? = some b) (hs : ¬ S j) : H'[j]? = some b := by
  rw [h.2 j (List.getElem?_eq_some_iff.1 hb).1 hs]; exact hb

theorem pget {H H' : Heap} (hp : H <+: H') {j : Nat} {b : Blk} (hb : H[j]? = some b) : H'[j]? = some b := Same.get (S := fun _ => False) (Same.of_prefix hp) hb (fun h => h)
def OL (e : Nat) (H : Heap) (id : Nat) (cs : List Value) (n : Nat) : Prop :=
  cs.length = n * e /\ ((n = 0 /\ ghostAt H id = true) \/ H[id]? = some ⟨cs, true, true⟩)

theorem OL.lt {e : Nat} {H : Heap} {id : Nat} {cs : List Value} {n : Nat} (h : OL e H id cs n) : id < H.length := by
  rcases h.2 with ⟨_, h⟩ | h
  · obtain ⟨b, hb, _⟩ := ghostAt_inv h
    exact (List.getElem?_eq_some_iff.1 hb).1
  · exact (List.getElem?_eq_some_iff.1 h).1

theorem OL.at {e : Nat} {H : Heap} {id : Nat} {cs : List Value} {n : Nat} (h : OL e H id cs n) : At H id 0 cs := by
  rcases h.2 with ⟨h0, _⟩ | h'
  · left; subst h0; exact List.eq_nil_of_length_eq_zero (by simpa using h.1)
  · exact Holds.at ⟨true, h'⟩

theorem OL.keep {e : Nat} {H H' : Heap} {id : Nat} {cs : List Value} {n : Nat} (h : OL e H id cs n) {S : Nat -> Prop} (hs : Same S H H') (hi : ¬ S id) : OL e H' id cs n := by
  refine ⟨h.1, ?_⟩
  rcases h.2 with ⟨h0, h'⟩ | h'
  · left
    obtain ⟨b, hb, h1, h2⟩ := ghostAt_inv h'
    refine ⟨h0, ?_⟩
    have := hs.get hb hi
    simp [ghostAt, this, h1, h2]
  · right; exact hs.get h' hi

theorem OL.append {e : Nat} {H : Heap} {id : Nat} {cs : List Value} {n : Nat} (h : OL e H id cs n) (he : 0 < e) {m : Nat} (hm : 0 < m) {news : List Value} (hn : news.length = m * e) :
    ∃ H', appendH H e (lv e id 0 n) m news = some (lv e H.length 0 (n + m), H') /\ OL e H' H.length (cs ++ news) (n + m) /\ Same (fun j => j = id) H H' /\ H'.length = H.length + 1 := by
  rcases h.2 with ⟨h0, hg⟩ | hb
  · subst h0
    have : cs = [] := List.eq_nil_of_length_eq_zero (by simpa using h.1)
    subst this
    refine ⟨H ++ [⟨news, true, true⟩], ?_, ⟨by simpa using hn, .inr (by simp)⟩, Same.of_prefix (List.prefix_append _ _), by simp⟩
    simp [appendH, show ¬ m = 0 by omega, he, hg]
  · have hc : cellsAt H id 0 (n * e) = some cs := by rw [<- h.1, cellsAt_of hb rfl (by simp)]; simp
    have hown : ownAt H id = true := by simp [ownAt, hb]
    have hng : ghostAt H id = false := by simp [ghostAt, hb]
    refine ⟨H.kill id ++ [⟨cs ++ news, true, true⟩], ?_, ⟨by simp [h.1, hn, Nat.add_mul], .inr (by rw [List.getElem?_append_right (by rw [Heap.kill_length]; exact Nat.le_refl _), Heap.kill_length]; simp)⟩, ⟨by simp [Heap.kill_length], fun j hj hs => ?_⟩, by simp [Heap.kill_length]⟩
    · simp [appendH, show ¬ m = 0 by omega, hown, hng, hc]
    · rw [List.getElem?_append_left (by rw [Heap.kill_length]; exact hj)]
      unfold Heap.kill
      rw [hb]
      exact List.getElem?_set_ne (fun e => hs e.symm)

theorem OL.push {e : Nat} {H : Heap} {id : Nat} {cs : List Value} {n : Nat} (h : OL e H id cs n) (he : 0 < e) {xs : List Value} (hx : xs.length = e) :
    cellsAt (H ++ [⟨xs, true, true⟩]) H.length 0 e = some xs /\ ∃ H', appendH (H ++ [⟨xs, true, true⟩]) e (lv e id 0 n) 1 xs = some (lv e (H.length + 1) 0 (n + 1), H') /\ OL e H' (H.length + 1) (cs ++ xs) (n + 1) /\ Same (fun j => j = id) H H' /\ H'.length = H.length + 2 := by
  have hid := h.lt
  have hk : OL e (H ++ [⟨xs, true, true⟩]) id cs n := h.keep (S := fun _ => False) (Same.of_prefix (List.prefix_append _ _)) (fun hh => hh)
  obtain ⟨H', h1, h2, h3, h4⟩ := hk.append he (m := 1) (by omega) (news := xs) (by simpa using hx)
  refine ⟨?_, H', by simpa using h1, by simpa using h2, ?_, by simpa using h4⟩
  · rw [cellsAt_of (b := ⟨xs, true, true⟩) (by simp) rfl (by simp [hx])]
    simp [<- hx]
  · exact (Same.of_prefix (S := fun j => j = id) (List.prefix_append H [⟨xs, true, true⟩])).trans h3

theorem Up.tuple {H : Heap} {xs ys : Array Value} (h : Ups H xs.toList ys.toList) : Up H (.tuple xs) (.tuple ys) := by
  intro B w0 ρ w cv hR hv
  obtain ⟨zs, rfl, hz⟩ := hv.tuple_inv
  exact VR.tuple_of (h.vrs hR hz)

theorem ACalls.res {P : Program} {f : FuncId} {args : List Value} {H : Heap} {Post : Value -> Heap -> Prop} (h : ACalls P f args H fun v H' => ∃ v', Up H' v v' /\ Post v' H') : ACalls P f args H Post :=
  ⟨h.1, fun B w0 ρ w cargs hR hv => (h.2 B w0 ρ w cargs hR hv).mono fun e w' hp => by
    obtain ⟨ρ', H', v, cv, h1, h2, h3, h4, v', h5, h6⟩ := hp
    exact ⟨ρ', H', v', cv, h1, h2, h3, h5 _ _ _ _ _ h3 h4, h6⟩⟩

def upFrom (k : Int) (n : Nat) : List Int := (List.range n).map fun j : Nat => k + (j : Int)

theorem upFrom_length (k : Int) (n : Nat) : (upFrom k n).length = n := by simp [upFrom]
theorem upFrom_get {k : Int} {n j : Nat} (h : j < n) : (upFrom k n)[j]? = some (k + (j : Int)) := by simp [upFrom, h]
theorem upFrom_append (k : Int) (m n : Nat) : upFrom k m ++ upFrom (k + (m : Int)) n = upFrom k (m + n) := by
  simp only [upFrom, List.range_add, List.map_append, List.map_map]
  congr 1
  apply List.map_congr_left
  intro a _
  simp only [Function.comp, Int.natCast_add]
  omega

def off (xss : List (List Int)) (s : Nat) : Nat := (xss.take s).flatten.length

def marked : Int -> List (List Int) -> List (List Int)
  | _, [] => []
  | k, xs :: xss => upFrom k xs.length :: marked (k + (xs.length : Int)) xss

end Go.Ab
end

section
namespace Go.Ab

/-! Memory at the heap's end, for simp. -/

def cellsB (b : Option Blk) (o n : Nat) : Option (List Value) :=
  match b with
  | some b => if b.live = true /\ o + n <= b.cells.length then some ((b.cells.drop o).take n) else none
  | none => none
theorem cellsAt_end0 (H L : Heap) (o n : Nat) : cellsAt (H ++ L) H.length o n = cellsB L[0]? o n := by
  have : (H ++ L)[H.length]? = L[0]? := by rw [List.getElem?_append_right (Nat.le_refl _)]; simp
  unfold cellsAt cellsB; rw [this]; rfl
theorem cellsAt_endk (H L : Heap) (k o n : Nat) : cellsAt (H ++ L) (H.length + k) o n = cellsB L[k]? o n := by
  have : (H ++ L)[H.length + k]? = L[k]? := by rw [List.getElem?_append_right (by omega)]; simp
  unfold cellsAt cellsB; rw [this]; rfl
def storeB (H L : Heap) (k o : Nat) (vs : List Value) (b : Option Blk) : Option Heap :=
  match b with
  | some b => if b.live = true /\ b.own = true /\ o + vs.length <= b.cells.length /\ vs.all Value.oneCell' = true then some (H ++ L.set k { b with cells := over b.cells o vs }) else none
  | none => none
theorem storeAt_end0 (H L : Heap) (o : Nat) (vs : List Value) : storeAt (H ++ L) H.length o vs = storeB H L 0 o vs L[0]? := by
  have : (H ++ L)[H.length]? = L[0]? := by rw [List.getElem?_append_right (Nat.le_refl _)]; simp
  unfold storeAt storeB; rw [this]
  cases L[0]? with
  | none => rfl
  | some b =>
    simp only
    rw [List.set_append_right _ _ (Nat.le_refl _), Nat.sub_self]
theorem storeAt_endk (H L : Heap) (k o : Nat) (vs : List Value) : storeAt (H ++ L) (H.length + k) o vs = storeB H L k o vs L[k]? := by
  have : (H ++ L)[H.length + k]? = L[k]? := by rw [List.getElem?_append_right (by omega)]; simp
  unfold storeAt storeB; rw [this]
  cases L[k]? with
  | none => rfl
  | some b =>
    simp only
    rw [List.set_append_right _ _ (by omega), Nat.add_sub_cancel_left]

attribute [go_sem] cellsB cellsAt_end0 cellsAt_endk storeB storeAt_end0 storeAt_endk over srcCells

structure Bk where
  a : Int
  b : Int
  c : Int
deriving DecidableEq

def Bk.cells (b : Bk) : List Value := [.int .i64 b.a, .int .i64 b.b, .int .i64 b.c]
def Bk.val (b : Bk) : Value := .agg #[.int .i64 b.a, .int .i64 b.b, .int .i64 b.c]
def tri (bs : List Bk) : List Value := bs.flatMap Bk.cells

theorem tri_cons (b : Bk) (bs : List Bk) : tri (b :: bs) = b.cells ++ tri bs := by simp [tri]
theorem tri_append (bs cs : List Bk) : tri (bs ++ cs) = tri bs ++ tri cs := by simp [tri]
theorem tri_one (b : Bk) : tri [b] = b.cells := by simp [tri]
theorem tri_length (bs : List Bk) : (tri bs).length = bs.length * 3 := by
  induction bs with
  | nil => rfl
  | cons b bs ih => rw [tri_cons, List.length_append, ih]; simp [Bk.cells]; omega
theorem tri_cut {bs : List Bk} : ∀ {s : Nat} {b : Bk}, bs[s]? = some b -> ((tri bs).drop (s * 3)).take 3 = b.cells := by
  induction bs with
  | nil => intro s b h; simp at h
  | cons d bs ih =>
    intro s b h
    cases s with
    | zero => simp at h; subst h; rw [tri_cons]; simp [Bk.cells]
    | succ s =>
      have := ih (s := s) (b := b) (by simpa using h)
      rw [tri_cons, show (s + 1) * 3 = d.cells.length + s * 3 by simp [Bk.cells]; omega, List.drop_append, List.drop_eq_nil_of_le (by omega), List.nil_append, Nat.add_sub_cancel_left]
      exact this

theorem At.bk {H : Heap} {i o : Nat} {bs : List Bk} (h : At H i o (tri bs)) {s : Nat} {b : Bk} (hb : bs[s]? = some b) : cellsAt H i (o + s * 3) 3 = some b.cells := by
  have hlt := (List.getElem?_eq_some_iff.1 hb).1
  rw [h.sub (by omega) (by rw [tri_length]; omega), tri_cut hb]

def BlocksAt (H : Heap) (v : Value) (bs : List Bk) : Prop := ∃ i o, v = lv 3 i o bs.length /\ At H i o (tri bs) /\ bs.length <= 140737488355328

theorem BlocksAt.pre {H H' : Heap} (hp : H <+: H') {v : Value} {bs : List Bk} (h : BlocksAt H v bs) : BlocksAt H' v bs := by
  obtain ⟨i, o, h1, h2, h3⟩ := h
  exact ⟨i, o, h1, h2.pre hp, h3⟩

theorem one_int (k : IntKind) (n : Int) : (Value.int k n).oneCell' = true := rfl
theorem one_bool (b : Bool) : (Value.bool b).oneCell' = true := rfl
theorem one_str (s : ByteArray) : (Value.string s).oneCell' = true := rfl
theorem one_slice (a : Option Addr) (n c : Nat) : (Value.slice a n c).oneCell' = true := rfl
theorem one_ptr (a : Option Addr) : (Value.pointer a).oneCell' = true := rfl
theorem one_func (f : Fn) (az bs : Array Value) : (Value.func f az bs).oneCell' = true := rfl
attribute [go_sem] one_int one_bool one_str one_slice one_ptr one_func
theorem BlocksAt.one {H : Heap} {v : Value} {bs : List Bk} (h : BlocksAt H v bs) : v.oneCell' = true := by obtain ⟨i, o, rfl, _⟩ := h; rfl

def sysV (p : Int) (v : Value) : Value := .agg #[.int .i64 p, v]

theorem made_same {z : Array Value} {v : Value} (hz : 0 < z.size) (h : ∀ i, i < z.size -> z[i]? = some v) (n : Nat) : (madeCells z n).toList = List.replicate n v := by
  apply List.ext_getElem?
  intro i
  simp only [madeCells, Array.toList_map, List.getElem?_map, Array.toList_range]
  by_cases hi : i < n
  · rw [List.getElem?_range hi, List.getElem?_replicate, if_pos hi]
    have := h (i % z.size) (Nat.mod_lt _ hz)
    simp [Array.getElem!_eq_getD, Array.getD_eq_getD_getElem?, this]
  · rw [List.getElem?_eq_none (by simp; omega), List.getElem?_replicate, if_neg hi]; rfl

def OwnBlocks (H : Heap) (v : Value) (id : Nat) (bs : List Bk) : Prop := v = lv 3 id 0 bs.length /\ (bs = [] \/ H[id]? = some ⟨tri bs, true, true⟩) /\ bs.length <= 140737488355328

theorem OwnBlocks.read {H : Heap} {v : Value} {id : Nat} {bs : List Bk} (h : OwnBlocks H v id bs) : BlocksAt H v bs := by
  obtain ⟨h1, h2, h3⟩ := h
  refine ⟨id, 0, h1, ?_, h3⟩
  rcases h2 with rfl | h2
  · exact .inl rfl
  · exact Holds.at ⟨true, h2⟩

theorem OwnBlocks.keep {H H' : Heap} {v : Value} {id : Nat} {bs : List Bk} (h : OwnBlocks H v id bs) {S : Nat -> Prop} (hs : Same S H H') (hi : ¬ S id) : OwnBlocks H' v id bs := by
  obtain ⟨h1, h2, h3⟩ := h
  exact ⟨h1, h2.imp (fun h => h) fun hb => hs.get hb hi, h3⟩

theorem Same.set {H : Heap} {i : Nat} {b : Blk} : Same (fun j => j = i) H (H.set i b) :=
  ⟨by simp, fun _ _ hs => List.getElem?_set_ne (fun e => hs e.symm)⟩

end Go.Ab
end

section
namespace Go.Proofs.YtkimaohcmcfcnaaDoor
open Go.Ab

theorem eqBlock_ok {H : Heap} {b d : Bk} (Post : Value -> Heap -> Prop) (h : ∀ H', H <+: H' -> Post (.bool (decide (b = d))) H') :
    ACalls Tryd.prog 38 [b.val, d.val] H Post := by
  refine acalls_vc (rs := [.tmp 4]) Tryd.func38 rfl rfl Tryd.ntmps38 rfl rfl ?_
  obtain ⟨b1, b2, b3⟩ := b
  obtain ⟨d1, d2, d3⟩ := d
  simp (maxSteps := 1000000) [go_sem, Bk.val, Value.oneCell']
  have h := h _ (List.prefix_append H [⟨[.int .i64 b1, .int .i64 b2, .int .i64 b3], true, true⟩, ⟨[.int .i64 d1, .int .i64 d2, .int .i64 d3], true, true⟩])
  refine AWp.loopVc (fun s : Nat => [(2, .pointer (some ⟨H.length, 0, none⟩)), (3, .pointer (some ⟨H.length + 1, 0, none⟩)), (5, .int .i64 s)])
    (fun s H' => s <= 3 /\ H' = H ++ [⟨[.int .i64 b1, .int .i64 b2, .int .i64 b3], true, true⟩, ⟨[.int .i64 d1, .int .i64 d2, .int .i64 d3], true, true⟩] /\ [b1, b2, b3].take s = [d1, d2, d3].take s) (fun s => 3 - s) 0 ?_ ?_ ?_
  · simp [upF, Fr.get, Up.refl]
  · simp
  · rintro K s H' ⟨hs, rfl, ht⟩ hK
    have : s = 0 \/ s = 1 \/ s = 2 \/ s = 3 := by omega
    rcases this with rfl | rfl | rfl | rfl
    · simp (maxSteps := 1000000) [go_sem]
      refine AWp.draw mixed [(0, false), (1, false), (2, false), (3, false), (4, false), (5, false), (6, false)] (by kernel_rfl) ?_
      simp (maxSteps := 1000000) [go_sem, i64w (n := 1) (by omega) (by omega)]
      refine condK_intro (fun hne => ?_) (fun heq => ?_)
      · simp at hne; simpa [hne] using h
      · exact hK 1 _ _ (by omega) (by simp [upF, Fr.get, Up.refl]) ⟨by omega, rfl, by simpa using heq⟩
    · simp (maxSteps := 1000000) [go_sem]
      refine AWp.draw mixed [(0, false), (1, false), (2, false), (3, false), (4, false), (5, false), (6, false)] (by kernel_rfl) ?_
      simp (maxSteps := 1000000) [go_sem, i64w (n := 2) (by omega) (by omega)]
      refine condK_intro (fun hne => ?_) (fun heq => ?_)
      · simp at hne; simpa [hne] using h
      · exact hK 2 _ _ (by omega) (by simp [upF, Fr.get, Up.refl]) ⟨by omega, rfl, by simp at ht heq; simp [ht, heq]⟩
    · simp (maxSteps := 1000000) [go_sem]
      refine AWp.draw mixed [(0, false), (1, false), (2, false), (3, false), (4, false), (5, false), (6, false)] (by kernel_rfl) ?_
      simp (maxSteps := 1000000) [go_sem, i64w (n := 3) (by omega) (by omega)]
      refine condK_intro (fun hne => ?_) (fun heq => ?_)
      · simp at hne; simpa [hne] using h
      · exact hK 3 _ _ (by omega) (by simp [upF, Fr.get, Up.refl]) ⟨by omega, rfl, by simp at ht heq; simp [ht, heq]⟩
    · simp (maxSteps := 1000000) [go_sem]
      simp at ht
      simpa [ht] using h

theorem eqBlockS_ok {H : Heap} {u v : Value} {xs ys : List Bk} (hu : BlocksAt H u xs) (hv : BlocksAt H v ys) (Post : Value -> Heap -> Prop) (h : ∀ H', H <+: H' -> Post (.bool (decide (xs = ys))) H') :
    ACalls Tryd.prog 20 [u, v] H Post := by
  obtain ⟨i, o, rfl, h1, h2⟩ := hu
  obtain ⟨j, q, rfl, h3, h4⟩ := hv
  refine acalls_vc (rs := [.tmp 4]) Tryd.func20 rfl rfl Tryd.ntmps20 rfl rfl ?_
  simp (maxSteps := 1000000) [go_sem]
  refine condK_intro (fun hne => ?_) (fun heq => ?_)
  · have : xs ≠ ys := by rintro rfl; simp at hne
    simpa [this] using h H (List.prefix_refl _)
  · have hlen : xs.length = ys.length := by simp at heq; omega
    refine AWp.loopVc (fun s : Nat => [(0, lv 3 i o xs.length), (1, lv 3 j q ys.length), (5, .int .i64 s)]) (fun s H' => H <+: H' /\ s <= xs.length /\ xs.take s = ys.take s) (fun s => xs.length - s) 0 ?_ ?_ ?_
    · simp [upF, Fr.get, Up.refl]
    · exact ⟨List.prefix_refl _, by omega, by simp⟩
    · rintro K s H' ⟨hp, hs, ht⟩ hK
      simp (maxSteps := 1000000) [go_sem]
      refine condK_intro (fun hlt => ?_) (fun hge => ?_)
      · have hlt : s < xs.length := by simpa using hlt
        have c1 := (h1.pre hp).bk (s := s) (b := xs[s]) (List.getElem?_eq_getElem _)
        have c2 := (h3.pre hp).bk (s := s) (b := ys[s]'(by omega)) (List.getElem?_eq_getElem _)
        simp only [Bk.cells] at c1 c2
        have hw : IntKind.i64.wrap ((s : Int) + 1) = (s : Int) + 1 := i64w (by omega) (by omega)
        refine AWp.draw mixed [(0, false), (1, false), (2, false), (3, false), (4, false), (5, false), (6, false), (7, false), (8, false), (9, false)] (by kernel_rfl) ?_
        simp (maxSteps := 1000000) [go_sem, hlt, hlen ▸ hlt, c1, c2]
        refine eqBlock_ok (b := xs[s]) (d := ys[s]'(by omega)) _ ?_
        intro H2 hp2
        simp (maxSteps := 1000000) [go_sem, hw]
        refine condK_intro (fun hne => ?_) (fun heq => ?_)
        · have : xs ≠ ys := by rintro rfl; simp at hne
          simpa [this] using h H2 (hp.trans hp2)
        · refine hK (s + 1) _ _ (by omega) (by simp [upF, Fr.get, Up.refl]) ⟨hp.trans hp2, by omega, ?_⟩
          have he : xs[s] = ys[s]'(by omega) := by simpa using heq
          rw [List.take_succ_eq_append_getElem hlt, List.take_succ_eq_append_getElem (by omega), ht, he]
      · have : s = xs.length := by simp at hge; omega
        subst this
        rw [List.take_length, hlen, List.take_length] at ht
        simpa [ht] using h H' hp

theorem eqSystem_ok {H : Heap} {u v : Value} {p q : Int} {xs ys : List Bk} (hu : BlocksAt H u xs) (hv : BlocksAt H v ys) (Post : Value -> Heap -> Prop) (h : ∀ H', H <+: H' -> Post (.bool (decide (p = q /\ xs = ys))) H') :
    ACalls Tryd.prog 9 [sysV p u, sysV q v] H Post := by
  refine acalls_vc (rs := [.tmp 4]) Tryd.func9 rfl rfl Tryd.ntmps9 rfl rfl ?_
  obtain ⟨i, o, rfl, h1, h2⟩ := hu
  obtain ⟨j, r, rfl, h3, h4⟩ := hv
  simp (maxSteps := 1000000) [go_sem, sysV, Value.oneCell']
  refine condK_intro (fun hne => ?_) (fun heq => ?_)
  · have : ¬ p = q := by simpa using hne
    simpa [this] using h _ (List.prefix_append H _)
  · have : p = q := by simpa using heq
    subst this
    refine eqBlockS_ok ⟨i, o, rfl, h1.pre (List.prefix_append _ _), h2⟩ ⟨j, r, rfl, h3.pre (List.prefix_append _ _), h4⟩ _ ?_
    intro H' hp
    have h := h H' ((List.prefix_append _ _).trans hp)
    simp (maxSteps := 1000000) [go_sem]
    refine condK_intro (fun hne => ?_) (fun heq => ?_)
    · have : ¬ xs = ys := by simpa using hne
      simpa [this] using h
    · have : xs = ys := by simpa using heq
      simpa [this] using h

end Go.Proofs.YtkimaohcmcfcnaaDoor
end

section
namespace Go.Proofs.YtkimaohcmcfcnaaDoor
open Go.Ab

theorem within_ok {H : Heap} {n lo hi : Int} (Post : Value -> Heap -> Prop) (h : Post (.bool (decide (lo <= n) && decide (n <= hi))) H) :
    ACalls Tryd.prog 47 [.int .i64 n, .int .i64 lo, .int .i64 hi] H Post := by
  refine acalls_vc (rs := [.tmp 6]) Tryd.func47 rfl rfl Tryd.ntmps47 rfl rfl ?_
  simp (maxSteps := 1000000) [go_sem]
  refine condK_intro (fun h1 => ?_) (fun h1 => ?_) <;> simp_all

theorem l01In_ok {H : Heap} {n lo hi : Int} (Post : Value -> Heap -> Prop) (h : Post (.bool (decide (lo <= n) && decide (n <= hi))) H) :
    ACalls Tryd.prog 28 [.int .i64 n, .int .i64 lo, .int .i64 hi] H Post := by
  refine acalls_vc (rs := [.tmp 6]) Tryd.func28 rfl rfl Tryd.ntmps28 rfl rfl ?_
  simp (maxSteps := 1000000) [go_sem]
  refine condK_intro (fun h1 => ?_) (fun h1 => ?_) <;> simp_all

end Go.Proofs.YtkimaohcmcfcnaaDoor
end

section
namespace Go.Ab

def good (v : Int) (b : Bk) : Bool := decide (0 <= b.a) && decide (b.a < b.b) && decide (b.b < b.c) && decide (b.c < v)
def before (x y : Bk) : Bool := if x.a ≠ y.a then decide (x.a < y.a) else if x.b ≠ y.b then decide (x.b < y.b) else decide (x.c < y.c)
def eq01 (x y : Int) : Nat := if x = y then 1 else 0
def common (x y : Bk) : Nat := eq01 x.a y.a + eq01 x.a y.b + eq01 x.a y.c + (eq01 x.b y.a + eq01 x.b y.b + eq01 x.b y.c) + (eq01 x.c y.a + eq01 x.c y.b + eq01 x.c y.c)
def Bk.nth (b : Bk) (i : Nat) : Int := if i = 0 then b.a else if i = 1 then b.b else b.c
def cnt (x y : Bk) (i k : Nat) : Nat :=
  (if 0 < i then eq01 x.a y.a + eq01 x.a y.b + eq01 x.a y.c else 0) + (if 1 < i then eq01 x.b y.a + eq01 x.b y.b + eq01 x.b y.c else 0) + (if 2 < i then eq01 x.c y.a + eq01 x.c y.b + eq01 x.c y.c else 0) +
  ((if 0 < k then eq01 (x.nth i) y.a else 0) + (if 1 < k then eq01 (x.nth i) y.b else 0) + (if 2 < k then eq01 (x.nth i) y.c else 0))

theorem eq01_le (x y : Int) : eq01 x y <= 1 := by unfold eq01; split <;> omega
theorem ite_le (p : Prop) [Decidable p] (a : Nat) : (if p then a else 0) <= a := by split <;> omega
theorem cnt_le (x y : Bk) (i k : Nat) : cnt x y i k <= 12 := by
  have a1 := eq01_le x.a y.a; have a2 := eq01_le x.a y.b; have a3 := eq01_le x.a y.c
  have b1 := eq01_le x.b y.a; have b2 := eq01_le x.b y.b; have b3 := eq01_le x.b y.c
  have c1 := eq01_le x.c y.a; have c2 := eq01_le x.c y.b; have c3 := eq01_le x.c y.c
  have d1 := eq01_le (x.nth i) y.a; have d2 := eq01_le (x.nth i) y.b; have d3 := eq01_le (x.nth i) y.c
  have e1 := ite_le (0 < i) (eq01 x.a y.a + eq01 x.a y.b + eq01 x.a y.c)
  have e2 := ite_le (1 < i) (eq01 x.b y.a + eq01 x.b y.b + eq01 x.b y.c)
  have e3 := ite_le (2 < i) (eq01 x.c y.a + eq01 x.c y.b + eq01 x.c y.c)
  have e4 := ite_le (0 < k) (eq01 (x.nth i) y.a)
  have e5 := ite_le (1 < k) (eq01 (x.nth i) y.b)
  have e6 := ite_le (2 < k) (eq01 (x.nth i) y.c)
  unfold cnt
  omega
theorem cnt_succ (x y : Bk) (i : Nat) {k : Nat} (h : k < 3) : cnt x y i (k + 1) = cnt x y i k + eq01 (x.nth i) (y.nth k) := by
  have : k = 0 \/ k = 1 \/ k = 2 := by omega
  rcases this with rfl | rfl | rfl <;> simp [cnt, Bk.nth] <;> omega
theorem cnt_end (x y : Bk) {i : Nat} (h : i < 3) : cnt x y i 3 = cnt x y (i + 1) 0 := by
  have : i = 0 \/ i = 1 \/ i = 2 := by omega
  rcases this with rfl | rfl | rfl <;> simp [cnt, Bk.nth] <;> omega
theorem cnt_all (x y : Bk) : cnt x y 3 0 = common x y := by simp [cnt, common]

def Fits (bs : List Bk) : Prop := ∀ (i k : Nat) (x y : Bk), k < i -> bs[i]? = some x -> bs[k]? = some y -> common x y <= 1
def Sorted (v : Int) (bs : List Bk) : Prop := ∀ (i : Nat) (x : Bk), bs[i]? = some x -> good v x = true /\ ∀ y, 0 < i -> bs[i - 1]? = some y -> before y x = true
def IsSys (p : Int) (bs : List Bk) : Prop := (3 <= p /\ p <= 15) /\ bs.length <= 35 /\ Sorted p bs /\ Fits bs

def Rises (n : Int) (xs : List Int) : Prop := ∀ (a : Nat) (x : Int), xs[a]? = some x -> (0 <= x /\ x < n) /\ ∀ y, 0 < a -> xs[a - 1]? = some y -> y < x

theorem rises_block (v : Int) (b : Bk) : Rises v [b.a, b.b, b.c] ↔ good v b = true := by
  simp only [good, Bool.and_eq_true, decide_eq_true_eq]
  constructor
  · intro h
    have h0 := h 0 b.a rfl
    have h1 := h 1 b.b rfl
    have h2 := h 2 b.c rfl
    have := h1.2 b.a (by omega) rfl
    have := h2.2 b.b (by omega) rfl
    omega
  · intro h a x hx
    match a, hx with
    | 0, hx => simp at hx; subst hx; exact ⟨by omega, by omega⟩
    | 1, hx => simp at hx; subst hx; exact ⟨by omega, fun y _ hy => by simp at hy; omega⟩
    | 2, hx => simp at hx; subst hx; exact ⟨by omega, fun y _ hy => by simp at hy; omega⟩
    | a + 3, hx => simp at hx

def lexC : List Int -> List Int -> Int
  | [], [] => 0
  | [], _ :: _ => -1
  | _ :: _, [] => 1
  | x :: xs, y :: ys => if x < y then -1 else if y < x then 1 else lexC xs ys

theorem lexC_block (x y : Bk) : (0 <= lexC [x.a, x.b, x.c] [y.a, y.b, y.c]) ↔ before x y = false := by
  simp only [lexC, before]
  repeat' split
  all_goals simp_all
  all_goals omega

end Go.Ab
end
