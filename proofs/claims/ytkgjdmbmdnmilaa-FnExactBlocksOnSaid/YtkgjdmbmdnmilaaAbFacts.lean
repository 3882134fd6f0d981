/- For each type of the translation: what the logic asks of it, as the kernel reckons it. -/
import Derived.Test.YtkgjdmbmdnmilaaProg
import Derived.Test.YtkgjdmbmdnmilaaAbVC
import Derived.KernelRfl
set_option linter.all false
namespace Go.Proofs.Ytkgjdmbmdnmilaa
open Go.Ab

theorem ti2 : ti Try.prog 2 = some ⟨.int .i64, 1, 8, (.int .i64 0)⟩ := by kernel_rfl
theorem zok2 : zeroOK Try.prog 2 = true := by kernel_rfl
theorem ti3 : ti Try.prog 3 = some ⟨.int .i64, 1, 8, (.int .i64 0)⟩ := by kernel_rfl
theorem zok3 : zeroOK Try.prog 3 = true := by kernel_rfl
theorem ti4 : ti Try.prog 4 = some ⟨.bool, 1, 1, (.bool false)⟩ := by kernel_rfl
theorem zok4 : zeroOK Try.prog 4 = true := by kernel_rfl
theorem ti5 : ti Try.prog 5 = some ⟨.int .u8, 1, 1, (.int .u8 0)⟩ := by kernel_rfl
theorem zok5 : zeroOK Try.prog 5 = true := by kernel_rfl
theorem ti6 : ti Try.prog 6 = some ⟨.int .u8, 1, 1, (.int .u8 0)⟩ := by kernel_rfl
theorem zok6 : zeroOK Try.prog 6 = true := by kernel_rfl
theorem ti7 : ti Try.prog 7 = some ⟨.struct (Try.prog.fieldsOf 7), 4, 24, (.agg #[(.int .i64 0), (.int .i64 0), (.bool false), (.int .u8 0)])⟩ := by kernel_rfl
theorem zok7 : zeroOK Try.prog 7 = true := by kernel_rfl
theorem ti8 : ti Try.prog 8 = some ⟨.struct (Try.prog.fieldsOf 8), 4, 24, (.agg #[(.int .i64 0), (.int .i64 0), (.bool false), (.int .u8 0)])⟩ := by kernel_rfl
theorem zok8 : zeroOK Try.prog 8 = true := by kernel_rfl
theorem ti9 : ti Try.prog 9 = some ⟨.string, 1, 16, (.string ⟨#[]⟩)⟩ := by kernel_rfl
theorem zok9 : zeroOK Try.prog 9 = true := by kernel_rfl
theorem ti10 : ti Try.prog 10 = some ⟨.string, 1, 16, (.string ⟨#[]⟩)⟩ := by kernel_rfl
theorem zok10 : zeroOK Try.prog 10 = true := by kernel_rfl
theorem ti11 : ti Try.prog 11 = some ⟨.string, 1, 16, (.string ⟨#[]⟩)⟩ := by kernel_rfl
theorem zok11 : zeroOK Try.prog 11 = true := by kernel_rfl
theorem ti12 : ti Try.prog 12 = some ⟨.int .u64, 1, 8, (.int .u64 0)⟩ := by kernel_rfl
theorem zok12 : zeroOK Try.prog 12 = true := by kernel_rfl
theorem ti13 : ti Try.prog 13 = some ⟨.struct (Try.prog.fieldsOf 13), 2, 24, (.agg #[(.string ⟨#[]⟩), (.int .u64 0)])⟩ := by kernel_rfl
theorem zok13 : zeroOK Try.prog 13 = true := by kernel_rfl
theorem ti14 : ti Try.prog 14 = some ⟨.struct (Try.prog.fieldsOf 14), 2, 24, (.agg #[(.string ⟨#[]⟩), (.int .u64 0)])⟩ := by kernel_rfl
theorem zok14 : zeroOK Try.prog 14 = true := by kernel_rfl
theorem ti15 : ti Try.prog 15 = some ⟨.pointer 203, 1, 8, (.pointer none)⟩ := by kernel_rfl
theorem zok15 : zeroOK Try.prog 15 = true := by kernel_rfl
theorem ti16 : ti Try.prog 16 = some ⟨.pointer 206, 1, 8, (.pointer none)⟩ := by kernel_rfl
theorem zok16 : zeroOK Try.prog 16 = true := by kernel_rfl
theorem ti17 : ti Try.prog 17 = some ⟨.pointer 215, 1, 8, (.pointer none)⟩ := by kernel_rfl
theorem zok17 : zeroOK Try.prog 17 = true := by kernel_rfl
theorem ti18 : ti Try.prog 18 = some ⟨.struct (Try.prog.fieldsOf 18), 1, 8, (.agg #[(.pointer none)])⟩ := by kernel_rfl
theorem zok18 : zeroOK Try.prog 18 = true := by kernel_rfl
theorem ti19 : ti Try.prog 19 = some ⟨.struct (Try.prog.fieldsOf 19), 1, 8, (.agg #[(.pointer none)])⟩ := by kernel_rfl
theorem zok19 : zeroOK Try.prog 19 = true := by kernel_rfl
theorem ti21 : ti Try.prog 21 = some ⟨.int .i32, 1, 4, (.int .i32 0)⟩ := by kernel_rfl
theorem zok21 : zeroOK Try.prog 21 = true := by kernel_rfl
theorem ti23 : ti Try.prog 23 = some ⟨.slice 50, 1, 24, (.slice none 0 0)⟩ := by kernel_rfl
theorem zok23 : zeroOK Try.prog 23 = true := by kernel_rfl
theorem ti29 : ti Try.prog 29 = some ⟨.slice 94, 1, 24, (.slice none 0 0)⟩ := by kernel_rfl
theorem zok29 : zeroOK Try.prog 29 = true := by kernel_rfl
theorem ti30 : ti Try.prog 30 = some ⟨.struct (Try.prog.fieldsOf 30), 2, 32, (.agg #[(.int .i64 0), (.slice none 0 0)])⟩ := by kernel_rfl
theorem zok30 : zeroOK Try.prog 30 = true := by kernel_rfl
theorem ti31 : ti Try.prog 31 = some ⟨.struct (Try.prog.fieldsOf 31), 2, 32, (.agg #[(.int .i64 0), (.slice none 0 0)])⟩ := by kernel_rfl
theorem zok31 : zeroOK Try.prog 31 = true := by kernel_rfl
theorem ti34 : ti Try.prog 34 = some ⟨.slice 95, 1, 24, (.slice none 0 0)⟩ := by kernel_rfl
theorem zok34 : zeroOK Try.prog 34 = true := by kernel_rfl
theorem ti35 : ti Try.prog 35 = some ⟨.struct (Try.prog.fieldsOf 35), 2, 32, (.agg #[(.int .i64 0), (.slice none 0 0)])⟩ := by kernel_rfl
theorem zok35 : zeroOK Try.prog 35 = true := by kernel_rfl
theorem ti36 : ti Try.prog 36 = some ⟨.struct (Try.prog.fieldsOf 36), 2, 32, (.agg #[(.int .i64 0), (.slice none 0 0)])⟩ := by kernel_rfl
theorem zok36 : zeroOK Try.prog 36 = true := by kernel_rfl
theorem ti42 : ti Try.prog 42 = some ⟨.slice 23, 1, 24, (.slice none 0 0)⟩ := by kernel_rfl
theorem zok42 : zeroOK Try.prog 42 = true := by kernel_rfl
theorem ti50 : ti Try.prog 50 = some ⟨.slice 2, 1, 24, (.slice none 0 0)⟩ := by kernel_rfl
theorem zok50 : zeroOK Try.prog 50 = true := by kernel_rfl
theorem ti90 : ti Try.prog 90 = some ⟨.array 15 2, 15, 120, (.agg (Array.replicate 15 (.int .i64 0)))⟩ := by kernel_rfl
theorem zok90 : zeroOK Try.prog 90 = true := by kernel_rfl
theorem ti91 : ti Try.prog 91 = some ⟨.pointer 180, 1, 8, (.pointer none)⟩ := by kernel_rfl
theorem zok91 : zeroOK Try.prog 91 = true := by kernel_rfl
theorem ti94 : ti Try.prog 94 = some ⟨.array 3 2, 3, 24, (.agg #[(.int .i64 0), (.int .i64 0), (.int .i64 0)])⟩ := by kernel_rfl
theorem zok94 : zeroOK Try.prog 94 = true := by kernel_rfl
theorem ti95 : ti Try.prog 95 = some ⟨.array 3 2, 3, 24, (.agg #[(.int .i64 0), (.int .i64 0), (.int .i64 0)])⟩ := by kernel_rfl
theorem zok95 : zeroOK Try.prog 95 = true := by kernel_rfl
theorem ti111 : ti Try.prog 111 = some ⟨.int .u64, 1, 8, (.int .u64 0)⟩ := by kernel_rfl
theorem zok111 : zeroOK Try.prog 111 = true := by kernel_rfl
theorem ti112 : ti Try.prog 112 = some ⟨.int .u64, 1, 8, (.int .u64 0)⟩ := by kernel_rfl
theorem zok112 : zeroOK Try.prog 112 = true := by kernel_rfl
theorem ti142 : ti Try.prog 142 = some ⟨.int .u64, 1, 8, (.int .u64 0)⟩ := by kernel_rfl
theorem zok142 : zeroOK Try.prog 142 = true := by kernel_rfl
theorem ti146 : ti Try.prog 146 = some ⟨.slice 34, 1, 24, (.slice none 0 0)⟩ := by kernel_rfl
theorem zok146 : zeroOK Try.prog 146 = true := by kernel_rfl
theorem ti156 : ti Try.prog 156 = some ⟨.slice 4, 1, 24, (.slice none 0 0)⟩ := by kernel_rfl
theorem zok156 : zeroOK Try.prog 156 = true := by kernel_rfl
theorem ti174 : ti Try.prog 174 = some ⟨.int .u32, 1, 4, (.int .u32 0)⟩ := by kernel_rfl
theorem zok174 : zeroOK Try.prog 174 = true := by kernel_rfl
theorem ti179 : ti Try.prog 179 = some ⟨.array 15 90, 225, 1800, (.agg (Array.replicate 225 (.int .i64 0)))⟩ := by kernel_rfl
theorem zok179 : zeroOK Try.prog 179 = true := by kernel_rfl
theorem ti180 : ti Try.prog 180 = some ⟨.array 15 90, 225, 1800, (.agg (Array.replicate 225 (.int .i64 0)))⟩ := by kernel_rfl
theorem zok180 : zeroOK Try.prog 180 = true := by kernel_rfl
theorem ti184 : ti Try.prog 184 = some ⟨.int .i64, 1, 8, (.int .i64 0)⟩ := by kernel_rfl
theorem zok184 : zeroOK Try.prog 184 = true := by kernel_rfl
theorem ti192 : ti Try.prog 192 = some ⟨.int .u64, 1, 8, (.int .u64 0)⟩ := by kernel_rfl
theorem zok192 : zeroOK Try.prog 192 = true := by kernel_rfl
theorem ti196 : ti Try.prog 196 = some ⟨.pointer 3, 1, 8, (.pointer none)⟩ := by kernel_rfl
theorem zok196 : zeroOK Try.prog 196 = true := by kernel_rfl
theorem ti198 : ti Try.prog 198 = some ⟨.pointer 192, 1, 8, (.pointer none)⟩ := by kernel_rfl
theorem zok198 : zeroOK Try.prog 198 = true := by kernel_rfl
theorem ti202 : ti Try.prog 202 = some ⟨.struct (Try.prog.fieldsOf 202), 4, 40, (.agg #[(.pointer none), (.pointer none), (.pointer none), (.string ⟨#[]⟩)])⟩ := by kernel_rfl
theorem zok202 : zeroOK Try.prog 202 = true := by kernel_rfl
theorem ti203 : ti Try.prog 203 = some ⟨.struct (Try.prog.fieldsOf 203), 4, 40, (.agg #[(.pointer none), (.pointer none), (.pointer none), (.string ⟨#[]⟩)])⟩ := by kernel_rfl
theorem zok203 : zeroOK Try.prog 203 = true := by kernel_rfl
theorem ti204 : ti Try.prog 204 = some ⟨.array 0 16, 0, 0, (.agg #[])⟩ := by kernel_rfl
theorem zok204 : zeroOK Try.prog 204 = true := by kernel_rfl
theorem ti205 : ti Try.prog 205 = some ⟨.struct (Try.prog.fieldsOf 205), 0, 0, (.agg #[])⟩ := by kernel_rfl
theorem zok205 : zeroOK Try.prog 205 = true := by kernel_rfl
theorem ti206 : ti Try.prog 206 = some ⟨.struct (Try.prog.fieldsOf 206), 0, 0, (.agg #[])⟩ := by kernel_rfl
theorem zok206 : zeroOK Try.prog 206 = true := by kernel_rfl
theorem ti208 : ti Try.prog 208 = some ⟨.int .u8, 1, 1, (.int .u8 0)⟩ := by kernel_rfl
theorem zok208 : zeroOK Try.prog 208 = true := by kernel_rfl
theorem ti209 : ti Try.prog 209 = some ⟨.int .u8, 1, 1, (.int .u8 0)⟩ := by kernel_rfl
theorem zok209 : zeroOK Try.prog 209 = true := by kernel_rfl
theorem ti211 : ti Try.prog 211 = some ⟨.pointer 5, 1, 8, (.pointer none)⟩ := by kernel_rfl
theorem zok211 : zeroOK Try.prog 211 = true := by kernel_rfl
theorem ti212 : ti Try.prog 212 = some ⟨.int .i32, 1, 4, (.int .i32 0)⟩ := by kernel_rfl
theorem zok212 : zeroOK Try.prog 212 = true := by kernel_rfl
theorem ti213 : ti Try.prog 213 = some ⟨.int .i32, 1, 4, (.int .i32 0)⟩ := by kernel_rfl
theorem zok213 : zeroOK Try.prog 213 = true := by kernel_rfl
theorem ti214 : ti Try.prog 214 = some ⟨.struct (Try.prog.fieldsOf 214), 11, 48, (.agg #[(.int .u64 0), (.int .u64 0), (.int .u32 0), (.int .u8 0), (.int .u8 0), (.int .u8 0), (.int .u8 0), .nilFunc, (.pointer none), (.int .i32 0), (.int .i32 0)])⟩ := by kernel_rfl
theorem zok214 : zeroOK Try.prog 214 = true := by kernel_rfl
theorem ti215 : ti Try.prog 215 = some ⟨.struct (Try.prog.fieldsOf 215), 11, 48, (.agg #[(.int .u64 0), (.int .u64 0), (.int .u32 0), (.int .u8 0), (.int .u8 0), (.int .u8 0), (.int .u8 0), .nilFunc, (.pointer none), (.int .i32 0), (.int .i32 0)])⟩ := by kernel_rfl
theorem zok215 : zeroOK Try.prog 215 = true := by kernel_rfl
theorem bt7_  : Try.prog.built 7 [] = some #[(.int .i64 0), (.int .i64 0), (.bool false), (.int .u8 0)] := by kernel_rfl
theorem bt7_0 (x0 : Int) : Try.prog.built 7 [(0, (.int .i64 x0))] = some #[(.int .i64 x0), (.int .i64 0), (.bool false), (.int .u8 0)] := by kernel_rfl
theorem bt7_1 (x1 : Int) : Try.prog.built 7 [(1, (.int .i64 x1))] = some #[(.int .i64 0), (.int .i64 x1), (.bool false), (.int .u8 0)] := by kernel_rfl
theorem bt7_2 (x2 : Bool) : Try.prog.built 7 [(2, (.bool x2))] = some #[(.int .i64 0), (.int .i64 0), (.bool x2), (.int .u8 0)] := by kernel_rfl
theorem bt7_3 (x3 : Int) : Try.prog.built 7 [(3, (.int .u8 x3))] = some #[(.int .i64 0), (.int .i64 0), (.bool false), (.int .u8 x3)] := by kernel_rfl
theorem bt7_01 (x0 : Int) (x1 : Int) : Try.prog.built 7 [(0, (.int .i64 x0)), (1, (.int .i64 x1))] = some #[(.int .i64 x0), (.int .i64 x1), (.bool false), (.int .u8 0)] := by kernel_rfl
theorem bt7_02 (x0 : Int) (x2 : Bool) : Try.prog.built 7 [(0, (.int .i64 x0)), (2, (.bool x2))] = some #[(.int .i64 x0), (.int .i64 0), (.bool x2), (.int .u8 0)] := by kernel_rfl
theorem bt7_03 (x0 : Int) (x3 : Int) : Try.prog.built 7 [(0, (.int .i64 x0)), (3, (.int .u8 x3))] = some #[(.int .i64 x0), (.int .i64 0), (.bool false), (.int .u8 x3)] := by kernel_rfl
theorem bt7_12 (x1 : Int) (x2 : Bool) : Try.prog.built 7 [(1, (.int .i64 x1)), (2, (.bool x2))] = some #[(.int .i64 0), (.int .i64 x1), (.bool x2), (.int .u8 0)] := by kernel_rfl
theorem bt7_13 (x1 : Int) (x3 : Int) : Try.prog.built 7 [(1, (.int .i64 x1)), (3, (.int .u8 x3))] = some #[(.int .i64 0), (.int .i64 x1), (.bool false), (.int .u8 x3)] := by kernel_rfl
theorem bt7_23 (x2 : Bool) (x3 : Int) : Try.prog.built 7 [(2, (.bool x2)), (3, (.int .u8 x3))] = some #[(.int .i64 0), (.int .i64 0), (.bool x2), (.int .u8 x3)] := by kernel_rfl
theorem bt7_012 (x0 : Int) (x1 : Int) (x2 : Bool) : Try.prog.built 7 [(0, (.int .i64 x0)), (1, (.int .i64 x1)), (2, (.bool x2))] = some #[(.int .i64 x0), (.int .i64 x1), (.bool x2), (.int .u8 0)] := by kernel_rfl
theorem bt7_013 (x0 : Int) (x1 : Int) (x3 : Int) : Try.prog.built 7 [(0, (.int .i64 x0)), (1, (.int .i64 x1)), (3, (.int .u8 x3))] = some #[(.int .i64 x0), (.int .i64 x1), (.bool false), (.int .u8 x3)] := by kernel_rfl
theorem bt7_023 (x0 : Int) (x2 : Bool) (x3 : Int) : Try.prog.built 7 [(0, (.int .i64 x0)), (2, (.bool x2)), (3, (.int .u8 x3))] = some #[(.int .i64 x0), (.int .i64 0), (.bool x2), (.int .u8 x3)] := by kernel_rfl
theorem bt7_123 (x1 : Int) (x2 : Bool) (x3 : Int) : Try.prog.built 7 [(1, (.int .i64 x1)), (2, (.bool x2)), (3, (.int .u8 x3))] = some #[(.int .i64 0), (.int .i64 x1), (.bool x2), (.int .u8 x3)] := by kernel_rfl
theorem bt7_0123 (x0 : Int) (x1 : Int) (x2 : Bool) (x3 : Int) : Try.prog.built 7 [(0, (.int .i64 x0)), (1, (.int .i64 x1)), (2, (.bool x2)), (3, (.int .u8 x3))] = some #[(.int .i64 x0), (.int .i64 x1), (.bool x2), (.int .u8 x3)] := by kernel_rfl
theorem bt8_  : Try.prog.built 8 [] = some #[(.int .i64 0), (.int .i64 0), (.bool false), (.int .u8 0)] := by kernel_rfl
theorem bt8_0 (x0 : Int) : Try.prog.built 8 [(0, (.int .i64 x0))] = some #[(.int .i64 x0), (.int .i64 0), (.bool false), (.int .u8 0)] := by kernel_rfl
theorem bt8_1 (x1 : Int) : Try.prog.built 8 [(1, (.int .i64 x1))] = some #[(.int .i64 0), (.int .i64 x1), (.bool false), (.int .u8 0)] := by kernel_rfl
theorem bt8_2 (x2 : Bool) : Try.prog.built 8 [(2, (.bool x2))] = some #[(.int .i64 0), (.int .i64 0), (.bool x2), (.int .u8 0)] := by kernel_rfl
theorem bt8_3 (x3 : Int) : Try.prog.built 8 [(3, (.int .u8 x3))] = some #[(.int .i64 0), (.int .i64 0), (.bool false), (.int .u8 x3)] := by kernel_rfl
theorem bt8_01 (x0 : Int) (x1 : Int) : Try.prog.built 8 [(0, (.int .i64 x0)), (1, (.int .i64 x1))] = some #[(.int .i64 x0), (.int .i64 x1), (.bool false), (.int .u8 0)] := by kernel_rfl
theorem bt8_02 (x0 : Int) (x2 : Bool) : Try.prog.built 8 [(0, (.int .i64 x0)), (2, (.bool x2))] = some #[(.int .i64 x0), (.int .i64 0), (.bool x2), (.int .u8 0)] := by kernel_rfl
theorem bt8_03 (x0 : Int) (x3 : Int) : Try.prog.built 8 [(0, (.int .i64 x0)), (3, (.int .u8 x3))] = some #[(.int .i64 x0), (.int .i64 0), (.bool false), (.int .u8 x3)] := by kernel_rfl
theorem bt8_12 (x1 : Int) (x2 : Bool) : Try.prog.built 8 [(1, (.int .i64 x1)), (2, (.bool x2))] = some #[(.int .i64 0), (.int .i64 x1), (.bool x2), (.int .u8 0)] := by kernel_rfl
theorem bt8_13 (x1 : Int) (x3 : Int) : Try.prog.built 8 [(1, (.int .i64 x1)), (3, (.int .u8 x3))] = some #[(.int .i64 0), (.int .i64 x1), (.bool false), (.int .u8 x3)] := by kernel_rfl
theorem bt8_23 (x2 : Bool) (x3 : Int) : Try.prog.built 8 [(2, (.bool x2)), (3, (.int .u8 x3))] = some #[(.int .i64 0), (.int .i64 0), (.bool x2), (.int .u8 x3)] := by kernel_rfl
theorem bt8_012 (x0 : Int) (x1 : Int) (x2 : Bool) : Try.prog.built 8 [(0, (.int .i64 x0)), (1, (.int .i64 x1)), (2, (.bool x2))] = some #[(.int .i64 x0), (.int .i64 x1), (.bool x2), (.int .u8 0)] := by kernel_rfl
theorem bt8_013 (x0 : Int) (x1 : Int) (x3 : Int) : Try.prog.built 8 [(0, (.int .i64 x0)), (1, (.int .i64 x1)), (3, (.int .u8 x3))] = some #[(.int .i64 x0), (.int .i64 x1), (.bool false), (.int .u8 x3)] := by kernel_rfl
theorem bt8_023 (x0 : Int) (x2 : Bool) (x3 : Int) : Try.prog.built 8 [(0, (.int .i64 x0)), (2, (.bool x2)), (3, (.int .u8 x3))] = some #[(.int .i64 x0), (.int .i64 0), (.bool x2), (.int .u8 x3)] := by kernel_rfl
theorem bt8_123 (x1 : Int) (x2 : Bool) (x3 : Int) : Try.prog.built 8 [(1, (.int .i64 x1)), (2, (.bool x2)), (3, (.int .u8 x3))] = some #[(.int .i64 0), (.int .i64 x1), (.bool x2), (.int .u8 x3)] := by kernel_rfl
theorem bt8_0123 (x0 : Int) (x1 : Int) (x2 : Bool) (x3 : Int) : Try.prog.built 8 [(0, (.int .i64 x0)), (1, (.int .i64 x1)), (2, (.bool x2)), (3, (.int .u8 x3))] = some #[(.int .i64 x0), (.int .i64 x1), (.bool x2), (.int .u8 x3)] := by kernel_rfl
theorem bt13_  : Try.prog.built 13 [] = some #[(.string ⟨#[]⟩), (.int .u64 0)] := by kernel_rfl
theorem bt13_0 (x0 : ByteArray) : Try.prog.built 13 [(0, (.string x0))] = some #[(.string x0), (.int .u64 0)] := by kernel_rfl
theorem bt13_1 (x1 : Int) : Try.prog.built 13 [(1, (.int .u64 x1))] = some #[(.string ⟨#[]⟩), (.int .u64 x1)] := by kernel_rfl
theorem bt13_01 (x0 : ByteArray) (x1 : Int) : Try.prog.built 13 [(0, (.string x0)), (1, (.int .u64 x1))] = some #[(.string x0), (.int .u64 x1)] := by kernel_rfl
theorem bt14_  : Try.prog.built 14 [] = some #[(.string ⟨#[]⟩), (.int .u64 0)] := by kernel_rfl
theorem bt14_0 (x0 : ByteArray) : Try.prog.built 14 [(0, (.string x0))] = some #[(.string x0), (.int .u64 0)] := by kernel_rfl
theorem bt14_1 (x1 : Int) : Try.prog.built 14 [(1, (.int .u64 x1))] = some #[(.string ⟨#[]⟩), (.int .u64 x1)] := by kernel_rfl
theorem bt14_01 (x0 : ByteArray) (x1 : Int) : Try.prog.built 14 [(0, (.string x0)), (1, (.int .u64 x1))] = some #[(.string x0), (.int .u64 x1)] := by kernel_rfl
theorem bt18_  : Try.prog.built 18 [] = some #[(.pointer none)] := by kernel_rfl
theorem bt18_0 (x0 : Option Addr) : Try.prog.built 18 [(0, (.pointer x0))] = some #[(.pointer x0)] := by kernel_rfl
theorem bt19_  : Try.prog.built 19 [] = some #[(.pointer none)] := by kernel_rfl
theorem bt19_0 (x0 : Option Addr) : Try.prog.built 19 [(0, (.pointer x0))] = some #[(.pointer x0)] := by kernel_rfl
theorem bs50_0  : builtSl Try.prog 50 0 [] = some #[] := by kernel_rfl
theorem bs50_1 (a0 : Option Addr) (n0 c0 : Nat) : builtSl Try.prog 50 1 [(0, (.slice a0 n0 c0))] = some #[(.slice a0 n0 c0)] := by kernel_rfl
theorem bs50_2 (a0 : Option Addr) (n0 c0 : Nat) (a1 : Option Addr) (n1 c1 : Nat) : builtSl Try.prog 50 2 [(0, (.slice a0 n0 c0)), (1, (.slice a1 n1 c1))] = some #[(.slice a0 n0 c0), (.slice a1 n1 c1)] := by kernel_rfl
theorem bs50_3 (a0 : Option Addr) (n0 c0 : Nat) (a1 : Option Addr) (n1 c1 : Nat) (a2 : Option Addr) (n2 c2 : Nat) : builtSl Try.prog 50 3 [(0, (.slice a0 n0 c0)), (1, (.slice a1 n1 c1)), (2, (.slice a2 n2 c2))] = some #[(.slice a0 n0 c0), (.slice a1 n1 c1), (.slice a2 n2 c2)] := by kernel_rfl
theorem bs50_4 (a0 : Option Addr) (n0 c0 : Nat) (a1 : Option Addr) (n1 c1 : Nat) (a2 : Option Addr) (n2 c2 : Nat) (a3 : Option Addr) (n3 c3 : Nat) : builtSl Try.prog 50 4 [(0, (.slice a0 n0 c0)), (1, (.slice a1 n1 c1)), (2, (.slice a2 n2 c2)), (3, (.slice a3 n3 c3))] = some #[(.slice a0 n0 c0), (.slice a1 n1 c1), (.slice a2 n2 c2), (.slice a3 n3 c3)] := by kernel_rfl
theorem bs50_5 (a0 : Option Addr) (n0 c0 : Nat) (a1 : Option Addr) (n1 c1 : Nat) (a2 : Option Addr) (n2 c2 : Nat) (a3 : Option Addr) (n3 c3 : Nat) (a4 : Option Addr) (n4 c4 : Nat) : builtSl Try.prog 50 5 [(0, (.slice a0 n0 c0)), (1, (.slice a1 n1 c1)), (2, (.slice a2 n2 c2)), (3, (.slice a3 n3 c3)), (4, (.slice a4 n4 c4))] = some #[(.slice a0 n0 c0), (.slice a1 n1 c1), (.slice a2 n2 c2), (.slice a3 n3 c3), (.slice a4 n4 c4)] := by kernel_rfl
theorem bs50_6 (a0 : Option Addr) (n0 c0 : Nat) (a1 : Option Addr) (n1 c1 : Nat) (a2 : Option Addr) (n2 c2 : Nat) (a3 : Option Addr) (n3 c3 : Nat) (a4 : Option Addr) (n4 c4 : Nat) (a5 : Option Addr) (n5 c5 : Nat) : builtSl Try.prog 50 6 [(0, (.slice a0 n0 c0)), (1, (.slice a1 n1 c1)), (2, (.slice a2 n2 c2)), (3, (.slice a3 n3 c3)), (4, (.slice a4 n4 c4)), (5, (.slice a5 n5 c5))] = some #[(.slice a0 n0 c0), (.slice a1 n1 c1), (.slice a2 n2 c2), (.slice a3 n3 c3), (.slice a4 n4 c4), (.slice a5 n5 c5)] := by kernel_rfl
theorem bs94_0  : builtSl Try.prog 94 0 [] = some #[] := by kernel_rfl
theorem bs94_1 (v0_0 v0_1 v0_2 : Value) : builtSl Try.prog 94 1 [(0, (.agg #[v0_0, v0_1, v0_2]))] = some #[v0_0, v0_1, v0_2] := by kernel_rfl
theorem bs94_2 (v0_0 v0_1 v0_2 : Value) (v1_0 v1_1 v1_2 : Value) : builtSl Try.prog 94 2 [(0, (.agg #[v0_0, v0_1, v0_2])), (1, (.agg #[v1_0, v1_1, v1_2]))] = some #[v0_0, v0_1, v0_2, v1_0, v1_1, v1_2] := by kernel_rfl
theorem bs94_3 (v0_0 v0_1 v0_2 : Value) (v1_0 v1_1 v1_2 : Value) (v2_0 v2_1 v2_2 : Value) : builtSl Try.prog 94 3 [(0, (.agg #[v0_0, v0_1, v0_2])), (1, (.agg #[v1_0, v1_1, v1_2])), (2, (.agg #[v2_0, v2_1, v2_2]))] = some #[v0_0, v0_1, v0_2, v1_0, v1_1, v1_2, v2_0, v2_1, v2_2] := by kernel_rfl
theorem bs94_4 (v0_0 v0_1 v0_2 : Value) (v1_0 v1_1 v1_2 : Value) (v2_0 v2_1 v2_2 : Value) (v3_0 v3_1 v3_2 : Value) : builtSl Try.prog 94 4 [(0, (.agg #[v0_0, v0_1, v0_2])), (1, (.agg #[v1_0, v1_1, v1_2])), (2, (.agg #[v2_0, v2_1, v2_2])), (3, (.agg #[v3_0, v3_1, v3_2]))] = some #[v0_0, v0_1, v0_2, v1_0, v1_1, v1_2, v2_0, v2_1, v2_2, v3_0, v3_1, v3_2] := by kernel_rfl
theorem bs94_5 (v0_0 v0_1 v0_2 : Value) (v1_0 v1_1 v1_2 : Value) (v2_0 v2_1 v2_2 : Value) (v3_0 v3_1 v3_2 : Value) (v4_0 v4_1 v4_2 : Value) : builtSl Try.prog 94 5 [(0, (.agg #[v0_0, v0_1, v0_2])), (1, (.agg #[v1_0, v1_1, v1_2])), (2, (.agg #[v2_0, v2_1, v2_2])), (3, (.agg #[v3_0, v3_1, v3_2])), (4, (.agg #[v4_0, v4_1, v4_2]))] = some #[v0_0, v0_1, v0_2, v1_0, v1_1, v1_2, v2_0, v2_1, v2_2, v3_0, v3_1, v3_2, v4_0, v4_1, v4_2] := by kernel_rfl
theorem bs94_6 (v0_0 v0_1 v0_2 : Value) (v1_0 v1_1 v1_2 : Value) (v2_0 v2_1 v2_2 : Value) (v3_0 v3_1 v3_2 : Value) (v4_0 v4_1 v4_2 : Value) (v5_0 v5_1 v5_2 : Value) : builtSl Try.prog 94 6 [(0, (.agg #[v0_0, v0_1, v0_2])), (1, (.agg #[v1_0, v1_1, v1_2])), (2, (.agg #[v2_0, v2_1, v2_2])), (3, (.agg #[v3_0, v3_1, v3_2])), (4, (.agg #[v4_0, v4_1, v4_2])), (5, (.agg #[v5_0, v5_1, v5_2]))] = some #[v0_0, v0_1, v0_2, v1_0, v1_1, v1_2, v2_0, v2_1, v2_2, v3_0, v3_1, v3_2, v4_0, v4_1, v4_2, v5_0, v5_1, v5_2] := by kernel_rfl
theorem bt30_  : Try.prog.built 30 [] = some #[(.int .i64 0), (.slice none 0 0)] := by kernel_rfl
theorem bt30_0 (x0 : Int) : Try.prog.built 30 [(0, (.int .i64 x0))] = some #[(.int .i64 x0), (.slice none 0 0)] := by kernel_rfl
theorem bt30_1 (a1 : Option Addr) (n1 c1 : Nat) : Try.prog.built 30 [(1, (.slice a1 n1 c1))] = some #[(.int .i64 0), (.slice a1 n1 c1)] := by kernel_rfl
theorem bt30_01 (x0 : Int) (a1 : Option Addr) (n1 c1 : Nat) : Try.prog.built 30 [(0, (.int .i64 x0)), (1, (.slice a1 n1 c1))] = some #[(.int .i64 x0), (.slice a1 n1 c1)] := by kernel_rfl
theorem bt31_  : Try.prog.built 31 [] = some #[(.int .i64 0), (.slice none 0 0)] := by kernel_rfl
theorem bt31_0 (x0 : Int) : Try.prog.built 31 [(0, (.int .i64 x0))] = some #[(.int .i64 x0), (.slice none 0 0)] := by kernel_rfl
theorem bt31_1 (a1 : Option Addr) (n1 c1 : Nat) : Try.prog.built 31 [(1, (.slice a1 n1 c1))] = some #[(.int .i64 0), (.slice a1 n1 c1)] := by kernel_rfl
theorem bt31_01 (x0 : Int) (a1 : Option Addr) (n1 c1 : Nat) : Try.prog.built 31 [(0, (.int .i64 x0)), (1, (.slice a1 n1 c1))] = some #[(.int .i64 x0), (.slice a1 n1 c1)] := by kernel_rfl
theorem bs95_0  : builtSl Try.prog 95 0 [] = some #[] := by kernel_rfl
theorem bs95_1 (v0_0 v0_1 v0_2 : Value) : builtSl Try.prog 95 1 [(0, (.agg #[v0_0, v0_1, v0_2]))] = some #[v0_0, v0_1, v0_2] := by kernel_rfl
theorem bs95_2 (v0_0 v0_1 v0_2 : Value) (v1_0 v1_1 v1_2 : Value) : builtSl Try.prog 95 2 [(0, (.agg #[v0_0, v0_1, v0_2])), (1, (.agg #[v1_0, v1_1, v1_2]))] = some #[v0_0, v0_1, v0_2, v1_0, v1_1, v1_2] := by kernel_rfl
theorem bs95_3 (v0_0 v0_1 v0_2 : Value) (v1_0 v1_1 v1_2 : Value) (v2_0 v2_1 v2_2 : Value) : builtSl Try.prog 95 3 [(0, (.agg #[v0_0, v0_1, v0_2])), (1, (.agg #[v1_0, v1_1, v1_2])), (2, (.agg #[v2_0, v2_1, v2_2]))] = some #[v0_0, v0_1, v0_2, v1_0, v1_1, v1_2, v2_0, v2_1, v2_2] := by kernel_rfl
theorem bs95_4 (v0_0 v0_1 v0_2 : Value) (v1_0 v1_1 v1_2 : Value) (v2_0 v2_1 v2_2 : Value) (v3_0 v3_1 v3_2 : Value) : builtSl Try.prog 95 4 [(0, (.agg #[v0_0, v0_1, v0_2])), (1, (.agg #[v1_0, v1_1, v1_2])), (2, (.agg #[v2_0, v2_1, v2_2])), (3, (.agg #[v3_0, v3_1, v3_2]))] = some #[v0_0, v0_1, v0_2, v1_0, v1_1, v1_2, v2_0, v2_1, v2_2, v3_0, v3_1, v3_2] := by kernel_rfl
theorem bs95_5 (v0_0 v0_1 v0_2 : Value) (v1_0 v1_1 v1_2 : Value) (v2_0 v2_1 v2_2 : Value) (v3_0 v3_1 v3_2 : Value) (v4_0 v4_1 v4_2 : Value) : builtSl Try.prog 95 5 [(0, (.agg #[v0_0, v0_1, v0_2])), (1, (.agg #[v1_0, v1_1, v1_2])), (2, (.agg #[v2_0, v2_1, v2_2])), (3, (.agg #[v3_0, v3_1, v3_2])), (4, (.agg #[v4_0, v4_1, v4_2]))] = some #[v0_0, v0_1, v0_2, v1_0, v1_1, v1_2, v2_0, v2_1, v2_2, v3_0, v3_1, v3_2, v4_0, v4_1, v4_2] := by kernel_rfl
theorem bs95_6 (v0_0 v0_1 v0_2 : Value) (v1_0 v1_1 v1_2 : Value) (v2_0 v2_1 v2_2 : Value) (v3_0 v3_1 v3_2 : Value) (v4_0 v4_1 v4_2 : Value) (v5_0 v5_1 v5_2 : Value) : builtSl Try.prog 95 6 [(0, (.agg #[v0_0, v0_1, v0_2])), (1, (.agg #[v1_0, v1_1, v1_2])), (2, (.agg #[v2_0, v2_1, v2_2])), (3, (.agg #[v3_0, v3_1, v3_2])), (4, (.agg #[v4_0, v4_1, v4_2])), (5, (.agg #[v5_0, v5_1, v5_2]))] = some #[v0_0, v0_1, v0_2, v1_0, v1_1, v1_2, v2_0, v2_1, v2_2, v3_0, v3_1, v3_2, v4_0, v4_1, v4_2, v5_0, v5_1, v5_2] := by kernel_rfl
theorem bt35_  : Try.prog.built 35 [] = some #[(.int .i64 0), (.slice none 0 0)] := by kernel_rfl
theorem bt35_0 (x0 : Int) : Try.prog.built 35 [(0, (.int .i64 x0))] = some #[(.int .i64 x0), (.slice none 0 0)] := by kernel_rfl
theorem bt35_1 (a1 : Option Addr) (n1 c1 : Nat) : Try.prog.built 35 [(1, (.slice a1 n1 c1))] = some #[(.int .i64 0), (.slice a1 n1 c1)] := by kernel_rfl
theorem bt35_01 (x0 : Int) (a1 : Option Addr) (n1 c1 : Nat) : Try.prog.built 35 [(0, (.int .i64 x0)), (1, (.slice a1 n1 c1))] = some #[(.int .i64 x0), (.slice a1 n1 c1)] := by kernel_rfl
theorem bt36_  : Try.prog.built 36 [] = some #[(.int .i64 0), (.slice none 0 0)] := by kernel_rfl
theorem bt36_0 (x0 : Int) : Try.prog.built 36 [(0, (.int .i64 x0))] = some #[(.int .i64 x0), (.slice none 0 0)] := by kernel_rfl
theorem bt36_1 (a1 : Option Addr) (n1 c1 : Nat) : Try.prog.built 36 [(1, (.slice a1 n1 c1))] = some #[(.int .i64 0), (.slice a1 n1 c1)] := by kernel_rfl
theorem bt36_01 (x0 : Int) (a1 : Option Addr) (n1 c1 : Nat) : Try.prog.built 36 [(0, (.int .i64 x0)), (1, (.slice a1 n1 c1))] = some #[(.int .i64 x0), (.slice a1 n1 c1)] := by kernel_rfl
theorem bs23_0  : builtSl Try.prog 23 0 [] = some #[] := by kernel_rfl
theorem bs23_1 (a0 : Option Addr) (n0 c0 : Nat) : builtSl Try.prog 23 1 [(0, (.slice a0 n0 c0))] = some #[(.slice a0 n0 c0)] := by kernel_rfl
theorem bs23_2 (a0 : Option Addr) (n0 c0 : Nat) (a1 : Option Addr) (n1 c1 : Nat) : builtSl Try.prog 23 2 [(0, (.slice a0 n0 c0)), (1, (.slice a1 n1 c1))] = some #[(.slice a0 n0 c0), (.slice a1 n1 c1)] := by kernel_rfl
theorem bs23_3 (a0 : Option Addr) (n0 c0 : Nat) (a1 : Option Addr) (n1 c1 : Nat) (a2 : Option Addr) (n2 c2 : Nat) : builtSl Try.prog 23 3 [(0, (.slice a0 n0 c0)), (1, (.slice a1 n1 c1)), (2, (.slice a2 n2 c2))] = some #[(.slice a0 n0 c0), (.slice a1 n1 c1), (.slice a2 n2 c2)] := by kernel_rfl
theorem bs23_4 (a0 : Option Addr) (n0 c0 : Nat) (a1 : Option Addr) (n1 c1 : Nat) (a2 : Option Addr) (n2 c2 : Nat) (a3 : Option Addr) (n3 c3 : Nat) : builtSl Try.prog 23 4 [(0, (.slice a0 n0 c0)), (1, (.slice a1 n1 c1)), (2, (.slice a2 n2 c2)), (3, (.slice a3 n3 c3))] = some #[(.slice a0 n0 c0), (.slice a1 n1 c1), (.slice a2 n2 c2), (.slice a3 n3 c3)] := by kernel_rfl
theorem bs23_5 (a0 : Option Addr) (n0 c0 : Nat) (a1 : Option Addr) (n1 c1 : Nat) (a2 : Option Addr) (n2 c2 : Nat) (a3 : Option Addr) (n3 c3 : Nat) (a4 : Option Addr) (n4 c4 : Nat) : builtSl Try.prog 23 5 [(0, (.slice a0 n0 c0)), (1, (.slice a1 n1 c1)), (2, (.slice a2 n2 c2)), (3, (.slice a3 n3 c3)), (4, (.slice a4 n4 c4))] = some #[(.slice a0 n0 c0), (.slice a1 n1 c1), (.slice a2 n2 c2), (.slice a3 n3 c3), (.slice a4 n4 c4)] := by kernel_rfl
theorem bs23_6 (a0 : Option Addr) (n0 c0 : Nat) (a1 : Option Addr) (n1 c1 : Nat) (a2 : Option Addr) (n2 c2 : Nat) (a3 : Option Addr) (n3 c3 : Nat) (a4 : Option Addr) (n4 c4 : Nat) (a5 : Option Addr) (n5 c5 : Nat) : builtSl Try.prog 23 6 [(0, (.slice a0 n0 c0)), (1, (.slice a1 n1 c1)), (2, (.slice a2 n2 c2)), (3, (.slice a3 n3 c3)), (4, (.slice a4 n4 c4)), (5, (.slice a5 n5 c5))] = some #[(.slice a0 n0 c0), (.slice a1 n1 c1), (.slice a2 n2 c2), (.slice a3 n3 c3), (.slice a4 n4 c4), (.slice a5 n5 c5)] := by kernel_rfl
theorem bs2_0  : builtSl Try.prog 2 0 [] = some #[] := by kernel_rfl
theorem bs2_1 (x0 : Int) : builtSl Try.prog 2 1 [(0, (.int .i64 x0))] = some #[(.int .i64 x0)] := by kernel_rfl
theorem bs2_2 (x0 : Int) (x1 : Int) : builtSl Try.prog 2 2 [(0, (.int .i64 x0)), (1, (.int .i64 x1))] = some #[(.int .i64 x0), (.int .i64 x1)] := by kernel_rfl
theorem bs2_3 (x0 : Int) (x1 : Int) (x2 : Int) : builtSl Try.prog 2 3 [(0, (.int .i64 x0)), (1, (.int .i64 x1)), (2, (.int .i64 x2))] = some #[(.int .i64 x0), (.int .i64 x1), (.int .i64 x2)] := by kernel_rfl
theorem bs2_4 (x0 : Int) (x1 : Int) (x2 : Int) (x3 : Int) : builtSl Try.prog 2 4 [(0, (.int .i64 x0)), (1, (.int .i64 x1)), (2, (.int .i64 x2)), (3, (.int .i64 x3))] = some #[(.int .i64 x0), (.int .i64 x1), (.int .i64 x2), (.int .i64 x3)] := by kernel_rfl
theorem bs2_5 (x0 : Int) (x1 : Int) (x2 : Int) (x3 : Int) (x4 : Int) : builtSl Try.prog 2 5 [(0, (.int .i64 x0)), (1, (.int .i64 x1)), (2, (.int .i64 x2)), (3, (.int .i64 x3)), (4, (.int .i64 x4))] = some #[(.int .i64 x0), (.int .i64 x1), (.int .i64 x2), (.int .i64 x3), (.int .i64 x4)] := by kernel_rfl
theorem bs2_6 (x0 : Int) (x1 : Int) (x2 : Int) (x3 : Int) (x4 : Int) (x5 : Int) : builtSl Try.prog 2 6 [(0, (.int .i64 x0)), (1, (.int .i64 x1)), (2, (.int .i64 x2)), (3, (.int .i64 x3)), (4, (.int .i64 x4)), (5, (.int .i64 x5))] = some #[(.int .i64 x0), (.int .i64 x1), (.int .i64 x2), (.int .i64 x3), (.int .i64 x4), (.int .i64 x5)] := by kernel_rfl
theorem bt94_  : Try.prog.built 94 [] = some #[(.int .i64 0), (.int .i64 0), (.int .i64 0)] := by kernel_rfl
theorem bt94_0 (x0 : Int) : Try.prog.built 94 [(0, (.int .i64 x0))] = some #[(.int .i64 x0), (.int .i64 0), (.int .i64 0)] := by kernel_rfl
theorem bt94_1 (x1 : Int) : Try.prog.built 94 [(1, (.int .i64 x1))] = some #[(.int .i64 0), (.int .i64 x1), (.int .i64 0)] := by kernel_rfl
theorem bt94_2 (x2 : Int) : Try.prog.built 94 [(2, (.int .i64 x2))] = some #[(.int .i64 0), (.int .i64 0), (.int .i64 x2)] := by kernel_rfl
theorem bt94_01 (x0 : Int) (x1 : Int) : Try.prog.built 94 [(0, (.int .i64 x0)), (1, (.int .i64 x1))] = some #[(.int .i64 x0), (.int .i64 x1), (.int .i64 0)] := by kernel_rfl
theorem bt94_02 (x0 : Int) (x2 : Int) : Try.prog.built 94 [(0, (.int .i64 x0)), (2, (.int .i64 x2))] = some #[(.int .i64 x0), (.int .i64 0), (.int .i64 x2)] := by kernel_rfl
theorem bt94_12 (x1 : Int) (x2 : Int) : Try.prog.built 94 [(1, (.int .i64 x1)), (2, (.int .i64 x2))] = some #[(.int .i64 0), (.int .i64 x1), (.int .i64 x2)] := by kernel_rfl
theorem bt94_012 (x0 : Int) (x1 : Int) (x2 : Int) : Try.prog.built 94 [(0, (.int .i64 x0)), (1, (.int .i64 x1)), (2, (.int .i64 x2))] = some #[(.int .i64 x0), (.int .i64 x1), (.int .i64 x2)] := by kernel_rfl
theorem bt95_  : Try.prog.built 95 [] = some #[(.int .i64 0), (.int .i64 0), (.int .i64 0)] := by kernel_rfl
theorem bt95_0 (x0 : Int) : Try.prog.built 95 [(0, (.int .i64 x0))] = some #[(.int .i64 x0), (.int .i64 0), (.int .i64 0)] := by kernel_rfl
theorem bt95_1 (x1 : Int) : Try.prog.built 95 [(1, (.int .i64 x1))] = some #[(.int .i64 0), (.int .i64 x1), (.int .i64 0)] := by kernel_rfl
theorem bt95_2 (x2 : Int) : Try.prog.built 95 [(2, (.int .i64 x2))] = some #[(.int .i64 0), (.int .i64 0), (.int .i64 x2)] := by kernel_rfl
theorem bt95_01 (x0 : Int) (x1 : Int) : Try.prog.built 95 [(0, (.int .i64 x0)), (1, (.int .i64 x1))] = some #[(.int .i64 x0), (.int .i64 x1), (.int .i64 0)] := by kernel_rfl
theorem bt95_02 (x0 : Int) (x2 : Int) : Try.prog.built 95 [(0, (.int .i64 x0)), (2, (.int .i64 x2))] = some #[(.int .i64 x0), (.int .i64 0), (.int .i64 x2)] := by kernel_rfl
theorem bt95_12 (x1 : Int) (x2 : Int) : Try.prog.built 95 [(1, (.int .i64 x1)), (2, (.int .i64 x2))] = some #[(.int .i64 0), (.int .i64 x1), (.int .i64 x2)] := by kernel_rfl
theorem bt95_012 (x0 : Int) (x1 : Int) (x2 : Int) : Try.prog.built 95 [(0, (.int .i64 x0)), (1, (.int .i64 x1)), (2, (.int .i64 x2))] = some #[(.int .i64 x0), (.int .i64 x1), (.int .i64 x2)] := by kernel_rfl
theorem bs34_0  : builtSl Try.prog 34 0 [] = some #[] := by kernel_rfl
theorem bs34_1 (a0 : Option Addr) (n0 c0 : Nat) : builtSl Try.prog 34 1 [(0, (.slice a0 n0 c0))] = some #[(.slice a0 n0 c0)] := by kernel_rfl
theorem bs34_2 (a0 : Option Addr) (n0 c0 : Nat) (a1 : Option Addr) (n1 c1 : Nat) : builtSl Try.prog 34 2 [(0, (.slice a0 n0 c0)), (1, (.slice a1 n1 c1))] = some #[(.slice a0 n0 c0), (.slice a1 n1 c1)] := by kernel_rfl
theorem bs34_3 (a0 : Option Addr) (n0 c0 : Nat) (a1 : Option Addr) (n1 c1 : Nat) (a2 : Option Addr) (n2 c2 : Nat) : builtSl Try.prog 34 3 [(0, (.slice a0 n0 c0)), (1, (.slice a1 n1 c1)), (2, (.slice a2 n2 c2))] = some #[(.slice a0 n0 c0), (.slice a1 n1 c1), (.slice a2 n2 c2)] := by kernel_rfl
theorem bs34_4 (a0 : Option Addr) (n0 c0 : Nat) (a1 : Option Addr) (n1 c1 : Nat) (a2 : Option Addr) (n2 c2 : Nat) (a3 : Option Addr) (n3 c3 : Nat) : builtSl Try.prog 34 4 [(0, (.slice a0 n0 c0)), (1, (.slice a1 n1 c1)), (2, (.slice a2 n2 c2)), (3, (.slice a3 n3 c3))] = some #[(.slice a0 n0 c0), (.slice a1 n1 c1), (.slice a2 n2 c2), (.slice a3 n3 c3)] := by kernel_rfl
theorem bs34_5 (a0 : Option Addr) (n0 c0 : Nat) (a1 : Option Addr) (n1 c1 : Nat) (a2 : Option Addr) (n2 c2 : Nat) (a3 : Option Addr) (n3 c3 : Nat) (a4 : Option Addr) (n4 c4 : Nat) : builtSl Try.prog 34 5 [(0, (.slice a0 n0 c0)), (1, (.slice a1 n1 c1)), (2, (.slice a2 n2 c2)), (3, (.slice a3 n3 c3)), (4, (.slice a4 n4 c4))] = some #[(.slice a0 n0 c0), (.slice a1 n1 c1), (.slice a2 n2 c2), (.slice a3 n3 c3), (.slice a4 n4 c4)] := by kernel_rfl
theorem bs34_6 (a0 : Option Addr) (n0 c0 : Nat) (a1 : Option Addr) (n1 c1 : Nat) (a2 : Option Addr) (n2 c2 : Nat) (a3 : Option Addr) (n3 c3 : Nat) (a4 : Option Addr) (n4 c4 : Nat) (a5 : Option Addr) (n5 c5 : Nat) : builtSl Try.prog 34 6 [(0, (.slice a0 n0 c0)), (1, (.slice a1 n1 c1)), (2, (.slice a2 n2 c2)), (3, (.slice a3 n3 c3)), (4, (.slice a4 n4 c4)), (5, (.slice a5 n5 c5))] = some #[(.slice a0 n0 c0), (.slice a1 n1 c1), (.slice a2 n2 c2), (.slice a3 n3 c3), (.slice a4 n4 c4), (.slice a5 n5 c5)] := by kernel_rfl
theorem bs4_0  : builtSl Try.prog 4 0 [] = some #[] := by kernel_rfl
theorem bs4_1 (x0 : Bool) : builtSl Try.prog 4 1 [(0, (.bool x0))] = some #[(.bool x0)] := by kernel_rfl
theorem bs4_2 (x0 : Bool) (x1 : Bool) : builtSl Try.prog 4 2 [(0, (.bool x0)), (1, (.bool x1))] = some #[(.bool x0), (.bool x1)] := by kernel_rfl
theorem bs4_3 (x0 : Bool) (x1 : Bool) (x2 : Bool) : builtSl Try.prog 4 3 [(0, (.bool x0)), (1, (.bool x1)), (2, (.bool x2))] = some #[(.bool x0), (.bool x1), (.bool x2)] := by kernel_rfl
theorem bs4_4 (x0 : Bool) (x1 : Bool) (x2 : Bool) (x3 : Bool) : builtSl Try.prog 4 4 [(0, (.bool x0)), (1, (.bool x1)), (2, (.bool x2)), (3, (.bool x3))] = some #[(.bool x0), (.bool x1), (.bool x2), (.bool x3)] := by kernel_rfl
theorem bs4_5 (x0 : Bool) (x1 : Bool) (x2 : Bool) (x3 : Bool) (x4 : Bool) : builtSl Try.prog 4 5 [(0, (.bool x0)), (1, (.bool x1)), (2, (.bool x2)), (3, (.bool x3)), (4, (.bool x4))] = some #[(.bool x0), (.bool x1), (.bool x2), (.bool x3), (.bool x4)] := by kernel_rfl
theorem bs4_6 (x0 : Bool) (x1 : Bool) (x2 : Bool) (x3 : Bool) (x4 : Bool) (x5 : Bool) : builtSl Try.prog 4 6 [(0, (.bool x0)), (1, (.bool x1)), (2, (.bool x2)), (3, (.bool x3)), (4, (.bool x4)), (5, (.bool x5))] = some #[(.bool x0), (.bool x1), (.bool x2), (.bool x3), (.bool x4), (.bool x5)] := by kernel_rfl
theorem bt202_  : Try.prog.built 202 [] = some #[(.pointer none), (.pointer none), (.pointer none), (.string ⟨#[]⟩)] := by kernel_rfl
theorem bt202_0 (x0 : Option Addr) : Try.prog.built 202 [(0, (.pointer x0))] = some #[(.pointer x0), (.pointer none), (.pointer none), (.string ⟨#[]⟩)] := by kernel_rfl
theorem bt202_1 (x1 : Option Addr) : Try.prog.built 202 [(1, (.pointer x1))] = some #[(.pointer none), (.pointer x1), (.pointer none), (.string ⟨#[]⟩)] := by kernel_rfl
theorem bt202_2 (x2 : Option Addr) : Try.prog.built 202 [(2, (.pointer x2))] = some #[(.pointer none), (.pointer none), (.pointer x2), (.string ⟨#[]⟩)] := by kernel_rfl
theorem bt202_3 (x3 : ByteArray) : Try.prog.built 202 [(3, (.string x3))] = some #[(.pointer none), (.pointer none), (.pointer none), (.string x3)] := by kernel_rfl
theorem bt202_01 (x0 : Option Addr) (x1 : Option Addr) : Try.prog.built 202 [(0, (.pointer x0)), (1, (.pointer x1))] = some #[(.pointer x0), (.pointer x1), (.pointer none), (.string ⟨#[]⟩)] := by kernel_rfl
theorem bt202_02 (x0 : Option Addr) (x2 : Option Addr) : Try.prog.built 202 [(0, (.pointer x0)), (2, (.pointer x2))] = some #[(.pointer x0), (.pointer none), (.pointer x2), (.string ⟨#[]⟩)] := by kernel_rfl
theorem bt202_03 (x0 : Option Addr) (x3 : ByteArray) : Try.prog.built 202 [(0, (.pointer x0)), (3, (.string x3))] = some #[(.pointer x0), (.pointer none), (.pointer none), (.string x3)] := by kernel_rfl
theorem bt202_12 (x1 : Option Addr) (x2 : Option Addr) : Try.prog.built 202 [(1, (.pointer x1)), (2, (.pointer x2))] = some #[(.pointer none), (.pointer x1), (.pointer x2), (.string ⟨#[]⟩)] := by kernel_rfl
theorem bt202_13 (x1 : Option Addr) (x3 : ByteArray) : Try.prog.built 202 [(1, (.pointer x1)), (3, (.string x3))] = some #[(.pointer none), (.pointer x1), (.pointer none), (.string x3)] := by kernel_rfl
theorem bt202_23 (x2 : Option Addr) (x3 : ByteArray) : Try.prog.built 202 [(2, (.pointer x2)), (3, (.string x3))] = some #[(.pointer none), (.pointer none), (.pointer x2), (.string x3)] := by kernel_rfl
theorem bt202_012 (x0 : Option Addr) (x1 : Option Addr) (x2 : Option Addr) : Try.prog.built 202 [(0, (.pointer x0)), (1, (.pointer x1)), (2, (.pointer x2))] = some #[(.pointer x0), (.pointer x1), (.pointer x2), (.string ⟨#[]⟩)] := by kernel_rfl
theorem bt202_013 (x0 : Option Addr) (x1 : Option Addr) (x3 : ByteArray) : Try.prog.built 202 [(0, (.pointer x0)), (1, (.pointer x1)), (3, (.string x3))] = some #[(.pointer x0), (.pointer x1), (.pointer none), (.string x3)] := by kernel_rfl
theorem bt202_023 (x0 : Option Addr) (x2 : Option Addr) (x3 : ByteArray) : Try.prog.built 202 [(0, (.pointer x0)), (2, (.pointer x2)), (3, (.string x3))] = some #[(.pointer x0), (.pointer none), (.pointer x2), (.string x3)] := by kernel_rfl
theorem bt202_123 (x1 : Option Addr) (x2 : Option Addr) (x3 : ByteArray) : Try.prog.built 202 [(1, (.pointer x1)), (2, (.pointer x2)), (3, (.string x3))] = some #[(.pointer none), (.pointer x1), (.pointer x2), (.string x3)] := by kernel_rfl
theorem bt202_0123 (x0 : Option Addr) (x1 : Option Addr) (x2 : Option Addr) (x3 : ByteArray) : Try.prog.built 202 [(0, (.pointer x0)), (1, (.pointer x1)), (2, (.pointer x2)), (3, (.string x3))] = some #[(.pointer x0), (.pointer x1), (.pointer x2), (.string x3)] := by kernel_rfl
theorem bt203_  : Try.prog.built 203 [] = some #[(.pointer none), (.pointer none), (.pointer none), (.string ⟨#[]⟩)] := by kernel_rfl
theorem bt203_0 (x0 : Option Addr) : Try.prog.built 203 [(0, (.pointer x0))] = some #[(.pointer x0), (.pointer none), (.pointer none), (.string ⟨#[]⟩)] := by kernel_rfl
theorem bt203_1 (x1 : Option Addr) : Try.prog.built 203 [(1, (.pointer x1))] = some #[(.pointer none), (.pointer x1), (.pointer none), (.string ⟨#[]⟩)] := by kernel_rfl
theorem bt203_2 (x2 : Option Addr) : Try.prog.built 203 [(2, (.pointer x2))] = some #[(.pointer none), (.pointer none), (.pointer x2), (.string ⟨#[]⟩)] := by kernel_rfl
theorem bt203_3 (x3 : ByteArray) : Try.prog.built 203 [(3, (.string x3))] = some #[(.pointer none), (.pointer none), (.pointer none), (.string x3)] := by kernel_rfl
theorem bt203_01 (x0 : Option Addr) (x1 : Option Addr) : Try.prog.built 203 [(0, (.pointer x0)), (1, (.pointer x1))] = some #[(.pointer x0), (.pointer x1), (.pointer none), (.string ⟨#[]⟩)] := by kernel_rfl
theorem bt203_02 (x0 : Option Addr) (x2 : Option Addr) : Try.prog.built 203 [(0, (.pointer x0)), (2, (.pointer x2))] = some #[(.pointer x0), (.pointer none), (.pointer x2), (.string ⟨#[]⟩)] := by kernel_rfl
theorem bt203_03 (x0 : Option Addr) (x3 : ByteArray) : Try.prog.built 203 [(0, (.pointer x0)), (3, (.string x3))] = some #[(.pointer x0), (.pointer none), (.pointer none), (.string x3)] := by kernel_rfl
theorem bt203_12 (x1 : Option Addr) (x2 : Option Addr) : Try.prog.built 203 [(1, (.pointer x1)), (2, (.pointer x2))] = some #[(.pointer none), (.pointer x1), (.pointer x2), (.string ⟨#[]⟩)] := by kernel_rfl
theorem bt203_13 (x1 : Option Addr) (x3 : ByteArray) : Try.prog.built 203 [(1, (.pointer x1)), (3, (.string x3))] = some #[(.pointer none), (.pointer x1), (.pointer none), (.string x3)] := by kernel_rfl
theorem bt203_23 (x2 : Option Addr) (x3 : ByteArray) : Try.prog.built 203 [(2, (.pointer x2)), (3, (.string x3))] = some #[(.pointer none), (.pointer none), (.pointer x2), (.string x3)] := by kernel_rfl
theorem bt203_012 (x0 : Option Addr) (x1 : Option Addr) (x2 : Option Addr) : Try.prog.built 203 [(0, (.pointer x0)), (1, (.pointer x1)), (2, (.pointer x2))] = some #[(.pointer x0), (.pointer x1), (.pointer x2), (.string ⟨#[]⟩)] := by kernel_rfl
theorem bt203_013 (x0 : Option Addr) (x1 : Option Addr) (x3 : ByteArray) : Try.prog.built 203 [(0, (.pointer x0)), (1, (.pointer x1)), (3, (.string x3))] = some #[(.pointer x0), (.pointer x1), (.pointer none), (.string x3)] := by kernel_rfl
theorem bt203_023 (x0 : Option Addr) (x2 : Option Addr) (x3 : ByteArray) : Try.prog.built 203 [(0, (.pointer x0)), (2, (.pointer x2)), (3, (.string x3))] = some #[(.pointer x0), (.pointer none), (.pointer x2), (.string x3)] := by kernel_rfl
theorem bt203_123 (x1 : Option Addr) (x2 : Option Addr) (x3 : ByteArray) : Try.prog.built 203 [(1, (.pointer x1)), (2, (.pointer x2)), (3, (.string x3))] = some #[(.pointer none), (.pointer x1), (.pointer x2), (.string x3)] := by kernel_rfl
theorem bt203_0123 (x0 : Option Addr) (x1 : Option Addr) (x2 : Option Addr) (x3 : ByteArray) : Try.prog.built 203 [(0, (.pointer x0)), (1, (.pointer x1)), (2, (.pointer x2)), (3, (.string x3))] = some #[(.pointer x0), (.pointer x1), (.pointer x2), (.string x3)] := by kernel_rfl
theorem bt205_  : Try.prog.built 205 [] = some #[] := by kernel_rfl
theorem bt206_  : Try.prog.built 206 [] = some #[] := by kernel_rfl
attribute [go_sem] bt7_ bt7_0 bt7_1 bt7_2 bt7_3 bt7_01 bt7_02 bt7_03 bt7_12 bt7_13 bt7_23 bt7_012 bt7_013 bt7_023 bt7_123 bt7_0123 bt8_ bt8_0 bt8_1 bt8_2 bt8_3 bt8_01 bt8_02 bt8_03 bt8_12 bt8_13 bt8_23 bt8_012 bt8_013 bt8_023 bt8_123 bt8_0123 bt13_ bt13_0 bt13_1 bt13_01 bt14_ bt14_0 bt14_1 bt14_01 bt18_ bt18_0 bt19_ bt19_0 bs50_0 bs50_1 bs50_2 bs50_3 bs50_4 bs50_5 bs50_6 bs94_0 bs94_1 bs94_2 bs94_3 bs94_4 bs94_5 bs94_6 bt30_ bt30_0 bt30_1 bt30_01 bt31_ bt31_0 bt31_1 bt31_01 bs95_0 bs95_1 bs95_2 bs95_3 bs95_4 bs95_5 bs95_6 bt35_ bt35_0 bt35_1 bt35_01 bt36_ bt36_0 bt36_1 bt36_01 bs23_0 bs23_1 bs23_2 bs23_3 bs23_4 bs23_5 bs23_6 bs2_0 bs2_1 bs2_2 bs2_3 bs2_4 bs2_5 bs2_6 bt94_ bt94_0 bt94_1 bt94_2 bt94_01 bt94_02 bt94_12 bt94_012 bt95_ bt95_0 bt95_1 bt95_2 bt95_01 bt95_02 bt95_12 bt95_012 bs34_0 bs34_1 bs34_2 bs34_3 bs34_4 bs34_5 bs34_6 bs4_0 bs4_1 bs4_2 bs4_3 bs4_4 bs4_5 bs4_6 bt202_ bt202_0 bt202_1 bt202_2 bt202_3 bt202_01 bt202_02 bt202_03 bt202_12 bt202_13 bt202_23 bt202_012 bt202_013 bt202_023 bt202_123 bt202_0123 bt203_ bt203_0 bt203_1 bt203_2 bt203_3 bt203_01 bt203_02 bt203_03 bt203_12 bt203_13 bt203_23 bt203_012 bt203_013 bt203_023 bt203_123 bt203_0123 bt205_ bt206_
attribute [go_sem] ti2 zok2 Try.underlying2 ti3 zok3 Try.underlying3 ti4 zok4 Try.underlying4 ti5 zok5 Try.underlying5 ti6 zok6 Try.underlying6 ti7 zok7 Try.underlying7 ti8 zok8 Try.underlying8 ti9 zok9 Try.underlying9 ti10 zok10 Try.underlying10 ti11 zok11 Try.underlying11 ti12 zok12 Try.underlying12 ti13 zok13 Try.underlying13 ti14 zok14 Try.underlying14 ti15 zok15 Try.underlying15 ti16 zok16 Try.underlying16 ti17 zok17 Try.underlying17 ti18 zok18 Try.underlying18 ti19 zok19 Try.underlying19 ti21 zok21 Try.underlying21 ti23 zok23 Try.underlying23 ti29 zok29 Try.underlying29 ti30 zok30 Try.underlying30 ti31 zok31 Try.underlying31 ti34 zok34 Try.underlying34 ti35 zok35 Try.underlying35 ti36 zok36 Try.underlying36 ti42 zok42 Try.underlying42 ti50 zok50 Try.underlying50 ti90 zok90 Try.underlying90 ti91 zok91 Try.underlying91 ti94 zok94 Try.underlying94 ti95 zok95 Try.underlying95 ti111 zok111 Try.underlying111 ti112 zok112 Try.underlying112 ti142 zok142 Try.underlying142 ti146 zok146 Try.underlying146 ti156 zok156 Try.underlying156 ti174 zok174 Try.underlying174 ti179 zok179 Try.underlying179 ti180 zok180 Try.underlying180 ti184 zok184 Try.underlying184 ti192 zok192 Try.underlying192 ti196 zok196 Try.underlying196 ti198 zok198 Try.underlying198 ti202 zok202 Try.underlying202 ti203 zok203 Try.underlying203 ti204 zok204 Try.underlying204 ti205 zok205 Try.underlying205 ti206 zok206 Try.underlying206 ti208 zok208 Try.underlying208 ti209 zok209 Try.underlying209 ti211 zok211 Try.underlying211 ti212 zok212 Try.underlying212 ti213 zok213 Try.underlying213 ti214 zok214 Try.underlying214 ti215 zok215 Try.underlying215
end Go.Proofs.Ytkgjdmbmdnmilaa
