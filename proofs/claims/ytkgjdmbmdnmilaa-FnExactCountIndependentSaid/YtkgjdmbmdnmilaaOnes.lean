/- The number of bits of a word: the walk. -/
import Derived.Test.YtkgjdmbmdnmilaaOnes0
set_option linter.all false
set_option maxRecDepth 20000
set_option maxHeartbeats 4000000
namespace Go.Proofs.Ytkgjdmbmdnmilaa
open Go.Ab

theorem and_u64w {a b : Nat} (ha : a < 2 ^ 62) : IntKind.u64.wrap ((@BitVec.toNat 64 (@HAnd.hAnd (BitVec 64) (BitVec 64) (BitVec 64) (@instHAndOfAndOp (BitVec IntKind.u64.bits) (@BitVec.instAndOp IntKind.u64.bits)) (BitVec.ofNat 64 a) (BitVec.ofNat 64 b)) : Nat) : Int) = ((a &&& (b % 2 ^ 64) : Nat) : Int) := by
  show IntKind.u64.wrap ((BitVec.ofNat 64 a &&& BitVec.ofNat 64 b).toNat : Int) = _
  have h3 : a &&& (b % 2 ^ 64) ≤ a := Nat.and_le_left
  rw [BitVec.toNat_and, BitVec.toNat_ofNat, BitVec.toNat_ofNat, Nat.mod_eq_of_lt (a := a) (by omega), IntKind.wrap_u64]
  omega
theorem fdivN (a b : Nat) : ((a : Int).fdiv (b : Int)) = ((a / b : Nat) : Int) := by
  rw [Int.fdiv_eq_ediv_of_nonneg _ (by omega)]; rfl
theorem ofIntDiv (a b : Nat) : BitVec.ofInt 64 ((a : Int) / (b : Int)) = BitVec.ofNat 64 (a / b) := by
  rw [show (a : Int) / (b : Int) = ((a / b : Nat) : Int) from rfl]; exact BitVec.ofInt_natCast _ _
theorem u64n {n : Int} (h : 0 ≤ n) (h2 : n < 18446744073709551616) : IntKind.u64.wrap n = n := by rw [IntKind.wrap_u64]; omega

theorem onesCount64_ok {H : Heap} {x : Nat} (hx : x < 2 ^ 15) (Post : Value → Heap → Prop) (h : Post (.int .i64 (pc 15 x)) H) : ACalls Try.prog 206 [.int .u64 x] H Post := by
  rw [← onesN_ok x hx, onesN] at h
  refine acalls_vc (rs := [.tmp 2]) Try.func206 rfl rfl Try.ntmps206 rfl rfl ?_
  have a1 := and_u64w (a := x / 2) (b := 6148914691236517205) (by omega)
  have a2 := and_u64w (a := x) (b := 6148914691236517205) (by omega)
  have l1 : x / 2 &&& 6148914691236517205 ≤ x / 2 := Nat.and_le_left
  have l2 : x &&& 6148914691236517205 ≤ x := Nat.and_le_left
  obtain ⟨y, hy⟩ : ∃ y, y = ones1 x := ⟨_, rfl⟩
  rw [← hy] at h
  unfold ones1 at hy
  rw [show 6148914691236517205 % 2 ^ 64 = 6148914691236517205 from rfl] at a1 a2
  generalize x / 2 &&& 6148914691236517205 = A1 at *
  generalize x &&& 6148914691236517205 = B1 at *
  have s1 : IntKind.u64.wrap ((A1 : Int) + (B1 : Int)) = (y : Int) := by rw [u64n (by omega) (by omega)]; omega
  have f1 : ((x : Int)).fdiv 2 = (x : Int) / 2 := fdivN x 2
  have yl : y < 2 ^ 17 := by omega
  have b1 := and_u64w (a := y / 4) (b := 3689348814741910323) (by omega)
  have b2 := and_u64w (a := y) (b := 3689348814741910323) (by omega)
  have l3 : y / 4 &&& 3689348814741910323 ≤ y / 4 := Nat.and_le_left
  have l4 : y &&& 3689348814741910323 ≤ y := Nat.and_le_left
  obtain ⟨z, hz⟩ : ∃ z, z = ones2 y := ⟨_, rfl⟩
  rw [← hz] at h
  unfold ones2 at hz
  rw [show 3689348814741910323 % 2 ^ 64 = 3689348814741910323 from rfl] at b1 b2
  generalize y / 4 &&& 3689348814741910323 = A2 at *
  generalize y &&& 3689348814741910323 = B2 at *
  have s2 : IntKind.u64.wrap ((A2 : Int) + (B2 : Int)) = (z : Int) := by rw [u64n (by omega) (by omega)]; omega
  have f2 : ((y : Int)).fdiv 4 = (y : Int) / 4 := fdivN y 4
  have zl : z < 2 ^ 19 := by omega
  have f3 : ((z : Int)).fdiv 16 = (z : Int) / 16 := fdivN z 16
  obtain ⟨z', hz'⟩ : ∃ z', z' = z / 16 + z := ⟨_, rfl⟩
  have s3 : IntKind.u64.wrap (((z / 16 : Nat) : Int) + (z : Int)) = (z' : Int) := by rw [u64n (by omega) (by omega)]; omega
  have s3' : IntKind.u64.wrap ((z : Int) / 16 + (z : Int)) = (z' : Int) := by rw [u64n (by omega) (by omega)]; omega
  have c1 := and_u64w (a := z') (b := 1085102592571150095) (by omega)
  have l5 : z' &&& 1085102592571150095 ≤ z' := Nat.and_le_left
  rw [show 1085102592571150095 % 2 ^ 64 = 1085102592571150095 from rfl] at c1
  rw [ones3, ← hz'] at h
  generalize z' &&& 1085102592571150095 = c at *
  have cl : c < 2 ^ 20 := by omega
  have f4 : ((c : Int)).fdiv 256 = (c : Int) / 256 := fdivN c 256
  rw [ones4] at h
  obtain ⟨d, hd⟩ : ∃ d, d = c + c / 256 := ⟨_, rfl⟩
  rw [← hd] at h
  have s4 : IntKind.u64.wrap ((c : Int) + ((c / 256 : Nat) : Int)) = (d : Int) := by rw [u64n (by omega) (by omega)]; omega
  have s4' : IntKind.u64.wrap ((c : Int) + (c : Int) / 256) = (d : Int) := by rw [u64n (by omega) (by omega)]; omega
  have f5 : ((d : Int)).fdiv 65536 = (d : Int) / 65536 := fdivN d 65536
  rw [ones5] at h
  obtain ⟨e, he⟩ : ∃ e, e = d + d / 65536 := ⟨_, rfl⟩
  rw [← he] at h
  have s5 : IntKind.u64.wrap ((d : Int) + ((d / 65536 : Nat) : Int)) = (e : Int) := by rw [u64n (by omega) (by omega)]; omega
  have s5' : IntKind.u64.wrap ((d : Int) + (d : Int) / 65536) = (e : Int) := by rw [u64n (by omega) (by omega)]; omega
  have f6 : ((e : Int)).fdiv 4294967296 = (e : Int) / 4294967296 := fdivN e 4294967296
  rw [ones6] at h
  obtain ⟨g, hg⟩ : ∃ g, g = e + e / 4294967296 := ⟨_, rfl⟩
  rw [← hg] at h
  have s6 : IntKind.u64.wrap ((e : Int) + ((e / 4294967296 : Nat) : Int)) = (g : Int) := by rw [u64n (by omega) (by omega)]; omega
  have s6' : IntKind.u64.wrap ((e : Int) + (e : Int) / 4294967296) = (g : Int) := by rw [u64n (by omega) (by omega)]; omega
  have gl : g < 2 ^ 22 := by omega
  have s7 : IntKind.i64.wrap (g : Int) = g := i64w (by omega) (by omega)
  have s8 := and_i64w (a := g) (b := 127) (by omega) (by omega)
  have u1 : IntKind.u64.wrap ((x : Int) / 2) = (x : Int) / 2 := u64n (by omega) (by omega)
  have o1 : BitVec.ofInt 64 ((x : Int) / 2) = BitVec.ofNat 64 (x / 2) := ofIntDiv x 2
  have u2 : IntKind.u64.wrap ((y : Int) / 4) = (y : Int) / 4 := u64n (by omega) (by omega)
  have o2 : BitVec.ofInt 64 ((y : Int) / 4) = BitVec.ofNat 64 (y / 4) := ofIntDiv y 4
  have u3 : IntKind.u64.wrap ((z : Int) / 16) = (z : Int) / 16 := u64n (by omega) (by omega)
  have o3 : BitVec.ofInt 64 ((z : Int) / 16) = BitVec.ofNat 64 (z / 16) := ofIntDiv z 16
  have u4 : IntKind.u64.wrap ((c : Int) / 256) = (c : Int) / 256 := u64n (by omega) (by omega)
  have o4 : BitVec.ofInt 64 ((c : Int) / 256) = BitVec.ofNat 64 (c / 256) := ofIntDiv c 256
  have u5 : IntKind.u64.wrap ((d : Int) / 65536) = (d : Int) / 65536 := u64n (by omega) (by omega)
  have o5 : BitVec.ofInt 64 ((d : Int) / 65536) = BitVec.ofNat 64 (d / 65536) := ofIntDiv d 65536
  have u6 : IntKind.u64.wrap ((e : Int) / 4294967296) = (e : Int) / 4294967296 := u64n (by omega) (by omega)
  have o6 : BitVec.ofInt 64 ((e : Int) / 4294967296) = BitVec.ofNat 64 (e / 4294967296) := ofIntDiv e 4294967296
  simp (maxSteps := 1000000) [go_sem, a1, a2, s1, f1, b1, b2, s2, f2, f3, s3, s3', c1, f4, s4, s4', f5, s5, s5', f6, s6, s6', s7, s8, u1, u2, u3, u4, u5, u6, o1, o2, o3, o4, o5, o6]
  exact h

end Go.Proofs.Ytkgjdmbmdnmilaa
