/- Part 9 of what the proof of the law FnExactTypesOf rests on: contracts of functions of the program, for every argument that each names; no statement of the seat is proved here. -/
import Derived.Test.YtakkmkinfeddeaaFnExactTypesOfPart8

section
/- bits.Len of small numbers, the next power of two, the next number drawn by xorshift. -/
set_option linter.all false
set_option maxRecDepth 20000
set_option maxHeartbeats 4000000
namespace Go.Proofs.Ytakkmkinfeddeaa
open Go.Ab Go.Sort

theorem fdivNN (a b : Nat) : ((a : Int).fdiv (b : Int)) = ((a / b : Nat) : Int) := by
  rw [Int.fdiv_eq_ediv_of_nonneg _ (by omega)]; rfl
/-- A table of lengths. -/
def tabOK (s : ByteArray) : Bool := (List.range 256).all fun y => match s[y]? with | some v => v.toNat == bitsLen y | none => false
theorem bindO_tab {s : ByteArray} {x : Nat} {K : UInt8 → Prop} (ht : tabOK s = true) (hx : x < 256) (h : ∀ v : UInt8, v.toNat = bitsLen x → K v) : bindO s[x]? K := by
  have := List.all_eq_true.1 ht x (List.mem_range.2 hx)
  revert this
  cases hs : s[x]? with
  | none => intro h; cases h
  | some v => intro h2; exact ⟨v, rfl, h v (by simpa using h2)⟩
theorem bitsLen_lt {x k : Nat} (h : x < 2 ^ k) : bitsLen x ≤ k := (bitsLen_le_iff x k).2 h
theorem bitsLen_shift {x k : Nat} (h : 0 < x / 2 ^ k) : bitsLen x = k + bitsLen (x / 2 ^ k) := by
  have key : ∀ m, bitsLen x ≤ k + m ↔ bitsLen (x / 2 ^ k) ≤ m := by
    intro m
    rw [bitsLen_le_iff, bitsLen_le_iff, Nat.div_lt_iff_lt_mul (Nat.two_pow_pos k), ← Nat.pow_add, Nat.add_comm m k]
  have h1 := (key (bitsLen (x / 2 ^ k))).2 (Nat.le_refl _)
  have h2 : k ≤ bitsLen x := by
    rcases Nat.lt_or_ge (bitsLen x) k with h3 | h3
    · have := (bitsLen_le_iff x k).1 (by omega)
      rw [Nat.div_eq_of_lt this] at h; omega
    · exact h3
  have h3 := (key (bitsLen x - k)).1 (by omega)
  omega

theorem len64_ok {H : Heap} {x : Nat} (hx : x < 2097152) (Post : Value → Heap → Prop) (h : Post (.int .i64 (bitsLen x : Nat)) H) : ACalls Try.prog 228 [.int .u64 x] H Post := by
  refine acalls_vc (rs := [.tmp 2]) Try.func228 rfl rfl Try.ntmps228 rfl rfl ?_
  have a1 : ¬ ((4294967296 : Int) ≤ x) := by omega
  have a6 : ¬ 4294967296 ≤ x := by omega
  by_cases h1 : x < 256
  · have a2 : ¬ ((65536 : Int) ≤ x) := by omega
    have a3 : ¬ ((256 : Int) ≤ x) := by omega
    have a4 : ¬ 65536 ≤ x := by omega
    have a5 : ¬ 256 ≤ x := by omega
    have w1 : IntKind.u8.wrap (x : Int) = x := by rw [IntKind.wrap_u8]; omega
    simp (maxSteps := 1000000) [go_sem, a1, a2, a3, a4, a5, a6, w1]
    refine bindO_tab (by kernel_rfl) h1 ?_
    intro v hv
    have hb := bitsLen_lt (x := x) (k := 8) (by omega)
    generalize bitsLen x = L at *
    have w2 : IntKind.i64.wrap (L : Int) = L := i64w (by omega) (by omega)
    simp (maxSteps := 1000000) [go_sem, hv, w2]
    exact h
  · by_cases h2 : x < 65536
    · have a2 : ¬ ((65536 : Int) ≤ x) := by omega
      have a3 : ((256 : Int) ≤ x) := by omega
      have a4 : ¬ 65536 ≤ x := by omega
      have a5 : 256 ≤ x := by omega
      obtain ⟨y, hy⟩ : ∃ y, y = x / 256 := ⟨_, rfl⟩
      have hsh := bitsLen_shift (x := x) (k := 8) (by show 0 < x / 256; omega)
      have hsh' : bitsLen x = 8 + bitsLen y := by rw [hy]; exact hsh
      rw [hsh'] at h
      have w0 : (x : Int).fdiv 256 = y := by rw [show (256 : Int) = ((256 : Nat) : Int) from rfl, fdivNN, hy]
      have w4 : IntKind.i64.wrap 8 = 8 := i64w (by omega) (by omega)
      have w1 : IntKind.u8.wrap (y : Int) = y := by rw [IntKind.wrap_u8]; omega
      have hb := bitsLen_lt (x := y) (k := 8) (by omega)
      simp (maxSteps := 1000000) [go_sem, a1, a2, a3, a4, a5, a6, w0, w1]
      refine bindO_tab (by kernel_rfl) (show y < 256 by omega) ?_
      intro v hv
      generalize bitsLen y = L at *
      have w2 : IntKind.i64.wrap (L : Int) = L := i64w (by omega) (by omega)
      have w3 : IntKind.i64.wrap (8 + (L : Int)) = 8 + (L : Int) := i64w (by omega) (by omega)
      simp (maxSteps := 1000000) [go_sem, hv, w2, w3, w4]
      simpa using h
    · have a2 : ((65536 : Int) ≤ x) := by omega
      have a3 : ((256 : Int) ≤ x) := by omega
      have a4 : 65536 ≤ x := by omega
      have a5 : 256 ≤ x := by omega
      obtain ⟨y, hy⟩ : ∃ y, y = x / 65536 := ⟨_, rfl⟩
      have hsh := bitsLen_shift (x := x) (k := 16) (by show 0 < x / 65536; omega)
      have hsh' : bitsLen x = 16 + bitsLen y := by rw [hy]; exact hsh
      rw [hsh'] at h
      have w0 : (x : Int).fdiv 65536 = y := by rw [show (65536 : Int) = ((65536 : Nat) : Int) from rfl, fdivNN, hy]
      have w4 : IntKind.i64.wrap 16 = 16 := i64w (by omega) (by omega)
      have w1 : IntKind.u8.wrap (y : Int) = y := by rw [IntKind.wrap_u8]; omega
      have hb := bitsLen_lt (x := y) (k := 8) (by omega)
      have a7 : ¬ ((256 : Int) ≤ y) := by omega
      have a8 : ¬ 256 ≤ y := by omega
      simp (maxSteps := 1000000) [go_sem, a1, a2, a3, a4, a5, a6, w0, w1, a7, a8]
      refine bindO_tab (by kernel_rfl) (show y < 256 by omega) ?_
      intro v hv
      generalize bitsLen y = L at *
      have w2 : IntKind.i64.wrap (L : Int) = L := i64w (by omega) (by omega)
      have w3 : IntKind.i64.wrap (16 + (L : Int)) = 16 + (L : Int) := i64w (by omega) (by omega)
      simp (maxSteps := 1000000) [go_sem, hv, w2, w3, w4]
      simpa using h

theorem bitsLenC_ok {H : Heap} {x : Nat} (hx : x < 2097152) (Post : Value → Heap → Prop) (h : Post (.int .i64 (bitsLen x : Nat)) H) : ACalls Try.prog 211 [.int .u64 x] H Post := by
  refine acalls_vc (rs := [.tmp 2]) Try.func211 rfl rfl Try.ntmps211 rfl rfl ?_
  have w1 : IntKind.u64.wrap (x : Int) = x := by rw [IntKind.wrap_u64]; omega
  simp (maxSteps := 1000000) [go_sem, w1]
  refine len64_ok hx _ ?_
  simp (maxSteps := 1000000) [go_sem]
  exact h

theorem nextPow_ok {H : Heap} {x : Nat} (h0 : 0 < x) (hx : x < 2097152) (Post : Value → Heap → Prop) (h : ∀ m : Nat, 0 < m → m ≤ 2 * x → Post (.int .u64 m) H) : ACalls Try.prog 263 [.int .i64 x] H Post := by
  refine acalls_vc (rs := [.tmp 2]) Try.func263 rfl rfl Try.ntmps263 rfl rfl ?_
  have w1 : IntKind.u64.wrap (x : Int) = x := by rw [IntKind.wrap_u64]; omega
  simp (maxSteps := 1000000) [go_sem, w1]
  refine bitsLenC_ok hx _ ?_
  have hp := two_pow_bitsLen_le h0
  have hb := bitsLen_lt (x := x) (k := 21) (by omega)
  have fin := h _ (Nat.two_pow_pos (bitsLen x)) hp
  have hcast : ((2 : Int) ^ bitsLen x) = ((2 ^ bitsLen x : Nat) : Int) := by rw [Int.natCast_pow]; rfl
  have hmin : min (bitsLen x) 64 = bitsLen x := by omega
  generalize bitsLen x = L at *
  obtain ⟨T, hT⟩ : ∃ T, T = 2 ^ L := ⟨_, rfl⟩
  rw [← hT] at hcast hp fin
  have hsh : IntKind.u64.wrap ((2 : Int) ^ L) = T := by rw [hcast, IntKind.wrap_u64]; omega
  simp (maxSteps := 1000000) [go_sem, hmin, hsh]
  exact fin

theorem xorNext_ok {H : Heap} {rid : Nat} {z : Int} (hz : H[rid]? = some ⟨[.int .u64 z], true, true⟩) (Post : Value → Heap → Prop)
    (h : ∀ (z' : Nat) (H' : Heap), z' < 18446744073709551616 → Same (fun k => k = rid) H H' → H'[rid]? = some ⟨[.int .u64 z'], true, true⟩ → Post (.int .u64 z') H') :
    ACalls Try.prog 264 [.pointer (some ⟨rid, 0, none⟩)] H Post := by
  have hlt := (List.getElem?_eq_some_iff.1 hz).1
  have l0 : cellsAt H rid 0 1 = some [.int .u64 z] := by rw [cellsAt_of hz rfl (by simp)]; rfl
  have s0 : ∀ v : Int, storeAt H rid 0 [.int .u64 v] = some (H.set rid ⟨[.int .u64 v], true, true⟩) := by
    intro v; rw [storeAt_of hz rfl rfl (by simp) (by simp [Value.oneCell'])]; rfl
  have g1 : ∀ v : Int, (H.set rid ⟨[.int .u64 v], true, true⟩)[rid]? = some ⟨[.int .u64 v], true, true⟩ := fun v => List.getElem?_set_self hlt
  have l1 : ∀ v : Int, cellsAt (H.set rid ⟨[.int .u64 v], true, true⟩) rid 0 1 = some [.int .u64 v] := by
    intro v; rw [cellsAt_of (g1 v) rfl (by simp)]; rfl
  have s1 : ∀ v w : Int, storeAt (H.set rid ⟨[.int .u64 v], true, true⟩) rid 0 [.int .u64 w] = some (H.set rid ⟨[.int .u64 w], true, true⟩) := by
    intro v w; rw [storeAt_of (g1 v) rfl rfl (by simp) (by simp [Value.oneCell'])]; simp [over]
  have fin : ∀ v : Int, 0 ≤ v → v < 18446744073709551616 → Post (.int .u64 v) (H.set rid ⟨[.int .u64 v], true, true⟩) := by
    intro v h0 h1
    obtain ⟨k, rfl⟩ : ∃ k : Nat, v = k := ⟨v.toNat, by omega⟩
    exact h k _ (by omega) same_set (g1 _)
  refine acalls_vc (rs := [.tmp 2]) Try.func264 rfl rfl Try.ntmps264 rfl rfl ?_
  simp (maxSteps := 1000000) [go_sem]
  refine AWp.draw mixed [(0, false), (1, false), (2, false), (3, false), (4, false), (5, false), (6, false), (7, false), (8, false), (9, false)] (by kernel_rfl) ?_
  simp (maxSteps := 1000000) [go_sem, l0, s0]
  refine AWp.draw mixed [(0, false), (1, false), (2, false), (3, false), (4, false), (5, false), (6, false), (7, false), (8, false), (9, false)] (by kernel_rfl) ?_
  simp (maxSteps := 1000000) [go_sem, l1, s1]
  refine AWp.draw mixed [(0, false), (1, false), (2, false), (3, false), (4, false), (5, false), (6, false), (7, false), (8, false), (9, false)] (by kernel_rfl) ?_
  simp (maxSteps := 1000000) [go_sem, l1, s1]
  refine fin _ ?_ ?_ <;> (rw [IntKind.wrap_u64]; omega)

theorem and_u64r {a b : Nat} (hb : b < 2 ^ 62) : IntKind.u64.wrap ((@BitVec.toNat 64 (@HAnd.hAnd (BitVec 64) (BitVec 64) (BitVec 64) (@instHAndOfAndOp (BitVec IntKind.u64.bits) (@BitVec.instAndOp IntKind.u64.bits)) (BitVec.ofNat 64 a) (BitVec.ofNat 64 b)) : Nat) : Int) = (((a % 2 ^ 64) &&& b : Nat) : Int) := by
  have e : (@BitVec.toNat 64 (@HAnd.hAnd (BitVec 64) (BitVec 64) (BitVec 64) (@instHAndOfAndOp (BitVec IntKind.u64.bits) (@BitVec.instAndOp IntKind.u64.bits)) (BitVec.ofNat 64 a) (BitVec.ofNat 64 b))) = (a % 2 ^ 64) &&& b := by
    show ((BitVec.ofNat 64 a) &&& (BitVec.ofNat 64 b)).toNat = _
    rw [BitVec.toNat_and, BitVec.toNat_ofNat, BitVec.toNat_ofNat, Nat.mod_eq_of_lt (show b < 2 ^ 64 by omega)]
  rw [e, IntKind.wrap_u64]
  have h1 : (a % 2 ^ 64) &&& b ≤ b := Nat.and_le_right
  omega

end Go.Proofs.Ytakkmkinfeddeaa
end

section
/- Sorting by a function: the breaking of patterns. -/
set_option linter.all false
set_option maxRecDepth 20000
set_option maxHeartbeats 8000000
namespace Go.Proofs.Ytakkmkinfeddeaa
open Go.Ab Go.Sort

theorem breakI_ok {H : Heap} {id a b n : Nat} {d : Array Int} {g : FuncId} {fs cs : List Value} {Q : Int → Prop} (hA : Arr cellsI H id d) (hn : d.size = n) (hl : n ≤ 1048576) (hab : a ≤ b) (hb : b ≤ n) (hQ : QA Q d)
    (Post : Value → Heap → Prop) (h : ∀ H' d', Same (fun k => k = id) H H' → Arr cellsI H' id d' → QA Q d' → PermIn a b d d' → Post (.tuple #[]) H') :
    ACalls Try.prog 221 [lv 1 id 0 n, .int .i64 a, .int .i64 b, .func (.func g) fs.toArray cs.toArray] H Post := by
  refine acalls_vc (rs := []) Try.func221 rfl rfl Try.ntmps221 rfl rfl ?_
  obtain ⟨l, hll⟩ : ∃ l, l = b - a := ⟨_, rfl⟩
  obtain ⟨q, hq⟩ : ∃ q, q = l / 4 := ⟨_, rfl⟩
  have w0 : IntKind.i64.wrap ((b : Int) - a) = (l : Int) := by rw [hll, i64w (by omega) (by omega)]; omega
  by_cases h8 : 8 ≤ l
  · have h8' : (8 : Int) ≤ l := by omega
    obtain ⟨i0, hi0⟩ : ∃ i0, i0 = a + q * 2 - 1 := ⟨_, rfl⟩
    have w1 : IntKind.i64.wrap ((l : Int) / 4) = (q : Int) := by rw [hq, i64w (by omega) (by omega)]; omega
    have w2 : IntKind.i64.wrap ((q : Int) * 2) = (q : Int) * 2 := i64w (by omega) (by omega)
    have w3 : IntKind.i64.wrap ((a : Int) + (q : Int) * 2) = (a : Int) + (q : Int) * 2 := i64w (by omega) (by omega)
    have w4 : IntKind.i64.wrap ((a : Int) + (q : Int) * 2 - 1) = (i0 : Int) := by rw [hi0, i64w (by omega) (by omega)]; omega
    have w5 : IntKind.i64.wrap ((a : Int) + (q : Int) * 2 + 1) = (i0 : Int) + 2 := by rw [i64w (by omega) (by omega)]; omega
    have w6 : IntKind.u64.wrap (l : Int) = l := by rw [IntKind.wrap_u64]; omega
    simp (maxSteps := 1000000) [go_sem, w0, h8, h8', w6]
    have hp0 : H <+: H ++ [⟨[.int .u64 l], true, true⟩] := List.prefix_append _ _
    have hz0 : (H ++ [(⟨[.int .u64 l], true, true⟩ : Blk)])[H.length]? = some ⟨[.int .u64 l], true, true⟩ := by simp
    have hidl := hA.lt
    have hA0 := hA.pre hp0
    have hS0 : Same (fun k => k = id) H (H ++ [⟨[.int .u64 l], true, true⟩]) := Same.of_prefix hp0
    generalize H ++ [(⟨[.int .u64 l], true, true⟩ : Blk)] = H0 at hp0 hz0 hA0 hS0 ⊢
    refine nextPow_ok (by omega) (by omega) _ ?_
    intro m hm0 hm
    obtain ⟨m1, hm1⟩ : ∃ m1, m1 = m - 1 := ⟨_, rfl⟩
    have w7 : IntKind.u64.wrap ((m : Int) - 1) = (m1 : Int) := by rw [hm1, IntKind.wrap_u64]; omega
    simp (maxSteps := 1000000) [go_sem, w1, w2, w3, w4]
    refine AWp.loopVc (St := Nat × Array Int × Int) (fun s => [(0, lv 1 id 0 n), (1, .int .i64 a), (8, .int .i64 l), (9, .pointer (some ⟨H.length, 0, none⟩)), (10, .int .u64 m), (11, .int .i64 s.1)])
      (fun s H' => i0 ≤ s.1 ∧ s.1 ≤ i0 + 3 ∧ s.2.1.size = n ∧ QA Q s.2.1 ∧ Same (fun k => k = id) H H' ∧ Arr cellsI H' id s.2.1 ∧ PermIn a b d s.2.1 ∧ H'[H.length]? = some ⟨[.int .u64 s.2.2], true, true⟩) (fun s => i0 + 3 - s.1) (i0, d, (l : Int)) ?_ ?_ ?_
    · simp [upF, Fr.get, Up.refl]
    · exact ⟨Nat.le_refl _, by simp only; omega, hn, hQ, hS0, hA0, permIn_refl _ _ _, hz0⟩
    · rintro K ⟨i, d1, z⟩ H1 ⟨hi1, hi2, hsz, hQ1, hS1, hA1, hP, hz⟩ hK
      simp only at hi1 hi2 hsz hQ1 hS1 hA1 hP hz
      by_cases hi3 : i ≤ i0 + 2
      · have hi3' : (i : Int) ≤ (i0 : Int) + 2 := by omega
        have hw_i : IntKind.i64.wrap ((i : Int) + 1) = (i : Int) + 1 := i64w (by omega) (by omega)
        simp (maxSteps := 1000000) [go_sem, w1, w2, w3, w5, hi3, hi3']
        refine xorNext_ok hz _ ?_
        intro z' H2 hzl hS2 hz2
        have hA2 : Arr cellsI H2 id d1 := hS2.get hA1 (by omega)
        have hS2' : Same (fun k => k = id) H H2 := hS1.via hS2 (by intro j hj e; omega)
        obtain ⟨o, ho⟩ : ∃ o, o = (z' % 2 ^ 64) &&& m1 := ⟨_, rfl⟩
        have hol : o ≤ m1 := by rw [ho]; exact Nat.and_le_right
        have hand := and_u64r (a := z') (b := m1) (by omega)
        rw [← ho] at hand
        have w8 : IntKind.i64.wrap (o : Int) = o := i64w (by omega) (by omega)
        have fin : ∀ (o2 : Nat), o2 < l → ∀ (H3 : Heap), H3 = H2 → Same (fun k => k = id) H H3 := fun _ _ H3 e => e ▸ hS2'
        by_cases hol2 : l ≤ o
        · have hol2' : (l : Int) ≤ o := by omega
          obtain ⟨o2, ho2⟩ : ∃ o2, o2 = o - l := ⟨_, rfl⟩
          have w9 : IntKind.i64.wrap ((o : Int) - l) = (o2 : Int) := by rw [ho2, i64w (by omega) (by omega)]; omega
          have hlt : o2 < l := by omega
          simp (maxSteps := 1000000) [go_sem, w7, hand, w8, hol2, hol2', w9]
          obtain ⟨ao, hao⟩ : ∃ ao, ao = a + o2 := ⟨_, rfl⟩
          have wa : IntKind.i64.wrap ((a : Int) + o2) = (ao : Int) := by rw [hao, i64w (by omega) (by omega)]; omega
          have u1 : i < (d1).size := by omega
          have u2 : ao < (d1).size := by omega
          have u3 : i < n := by omega
          have u4 : ao < n := by omega
          have uca := (hA2).load cellsI_len u1
          have ucb := (hA2).load cellsI_len u2
          obtain ⟨H5, H6, us1, us0, hA6, hS6, ul⟩ := (hA2).swap cellsI_len cellsI_one u1 u2
          obtain ⟨ux, uhx⟩ : ∃ x, x = (d1)[i]! := ⟨_, rfl⟩
          obtain ⟨uy, uhy⟩ : ∃ y, y = (d1)[ao]! := ⟨_, rfl⟩
          rw [← uhx] at uca us0
          rw [← uhy] at ucb us1
          simp only [cellsI, Nat.mul_one, Row.val] at uca ucb us0 us1
          refine AWp.draw mixed [(0, false), (1, false), (2, false), (3, false), (4, false), (5, false), (6, false), (7, false), (8, false), (9, false), (10, false), (11, false), (12, false), (13, false), (14, false), (15, false), (16, false), (17, false), (18, false), (19, false)] (by kernel_rfl) ?_
          simp (maxSteps := 1000000) [go_sem, wa, uca, ucb, u3, u4, us1, us0, hw_i]
          have hz6 := hS6.get hz2 (by omega)
          exact hK (i + 1, swp d1 i ao, (z' : Int)) _ _ (by simp only; omega) (by simp [upF, Fr.get, Up.refl]) ⟨by simp only; omega, by simp only; omega, by rw [size_swp]; exact hsz, hQ1.swp u1 u2, hS2'.trans hS6, hA6, permIn_trans _ _ _ a b hP (swp_permIn d1 a b i ao (by omega) (by omega) (by omega) (by omega) (by omega)), hz6⟩
        · have hol2' : ¬ ((l : Int) ≤ o) := by omega
          have hlt : o < l := by omega
          simp (maxSteps := 1000000) [go_sem, w7, hand, w8, hol2, hol2']
          obtain ⟨ao, hao⟩ : ∃ ao, ao = a + o := ⟨_, rfl⟩
          have wa : IntKind.i64.wrap ((a : Int) + o) = (ao : Int) := by rw [hao, i64w (by omega) (by omega)]; omega
          have u1 : i < (d1).size := by omega
          have u2 : ao < (d1).size := by omega
          have u3 : i < n := by omega
          have u4 : ao < n := by omega
          have uca := (hA2).load cellsI_len u1
          have ucb := (hA2).load cellsI_len u2
          obtain ⟨H5, H6, us1, us0, hA6, hS6, ul⟩ := (hA2).swap cellsI_len cellsI_one u1 u2
          obtain ⟨ux, uhx⟩ : ∃ x, x = (d1)[i]! := ⟨_, rfl⟩
          obtain ⟨uy, uhy⟩ : ∃ y, y = (d1)[ao]! := ⟨_, rfl⟩
          rw [← uhx] at uca us0
          rw [← uhy] at ucb us1
          simp only [cellsI, Nat.mul_one, Row.val] at uca ucb us0 us1
          refine AWp.draw mixed [(0, false), (1, false), (2, false), (3, false), (4, false), (5, false), (6, false), (7, false), (8, false), (9, false), (10, false), (11, false), (12, false), (13, false), (14, false), (15, false), (16, false), (17, false), (18, false), (19, false)] (by kernel_rfl) ?_
          simp (maxSteps := 1000000) [go_sem, wa, uca, ucb, u3, u4, us1, us0, hw_i]
          have hz6 := hS6.get hz2 (by omega)
          exact hK (i + 1, swp d1 i ao, (z' : Int)) _ _ (by simp only; omega) (by simp [upF, Fr.get, Up.refl]) ⟨by simp only; omega, by simp only; omega, by rw [size_swp]; exact hsz, hQ1.swp u1 u2, hS2'.trans hS6, hA6, permIn_trans _ _ _ a b hP (swp_permIn d1 a b i ao (by omega) (by omega) (by omega) (by omega) (by omega)), hz6⟩
      · have hi3' : ¬ ((i : Int) ≤ (i0 : Int) + 2) := by omega
        simp (maxSteps := 1000000) [go_sem, w1, w2, w3, w5, hi3, hi3']
        exact h H1 d1 hS1 hA1 hQ1 hP
  · have h8' : ¬ ((8 : Int) ≤ l) := by omega
    have fin := h H d (Same.refl _ _) hA hQ (permIn_refl _ _ _)
    simp (maxSteps := 1000000) [go_sem, w0, h8, h8']
    exact fin

end Go.Proofs.Ytakkmkinfeddeaa
end

section
/- Sorting by a function: pdqsort. -/
set_option linter.all false
set_option maxRecDepth 20000
set_option maxHeartbeats 8000000
namespace Go.Proofs.Ytakkmkinfeddeaa
open Go.Ab Go.Sort

theorem pdqI_ok {lt : Int → Int → Bool} {g : FuncId} {fs cs : List Value} {Q : Int → Prop} {n : Nat} (hS : SWO lt) (hl : n ≤ 1048576) : ∀ (N : Nat) {H : Heap} {id a b limit : Nat} {d : Array Int}, b - a ≤ N → Arr cellsI H id d → d.size = n → a ≤ b → b ≤ n → limit ≤ 64 → Below lt a b d → QA Q d →
    Cmp Try.prog valI lt g fs cs Q id H → ∀ (Post : Value → Heap → Prop), (∀ H' d', Same (fun k => k = id) H H' → Arr cellsI H' id d' → PermIn a b d d' → SortedIn lt a b d' → Post (.tuple #[]) H') →
    ACalls Try.prog 210 [lv 1 id 0 n, .int .i64 a, .int .i64 b, .int .i64 limit, .func (.func g) fs.toArray cs.toArray] H Post := by
  intro N
  induction N using Nat.strongRecOn with
  | _ N ih =>
  intro H id a b limit d hN hA hn hab hb hlim hBel hQ hC Post h
  refine acalls_vc (rs := []) Try.func210 rfl rfl Try.ntmps210 rfl rfl ?_
  simp (maxSteps := 1000000) [go_sem]
  refine AWp.loopA (St := Nat × Nat × Nat × Bool × Bool × Array Int) (fun s => [(0, lv 1 id 0 n), (1, .int .i64 s.1), (2, .int .i64 s.2.1), (3, .int .i64 s.2.2.1), (4, .func (.func g) fs.toArray cs.toArray), (10, .bool s.2.2.2.1), (11, .bool s.2.2.2.2.1)])
    (fun s H' => a ≤ s.1 ∧ s.1 ≤ s.2.1 ∧ s.2.1 ≤ b ∧ s.2.2.1 ≤ 64 ∧ s.2.2.2.2.2.size = n ∧ QA Q s.2.2.2.2.2 ∧ Same (fun k => k = id) H H' ∧ Arr cellsI H' id s.2.2.2.2.2 ∧ Below lt s.1 s.2.1 s.2.2.2.2.2 ∧
      ∀ R, PermIn s.1 s.2.1 s.2.2.2.2.2 R → SortedIn lt s.1 s.2.1 R → PermIn a b d R ∧ SortedIn lt a b R) (fun s => s.2.1 - s.1) (a, b, limit, true, true, d) ?_ ?_ ?_
  · simp [upF, Fr.get, Up.refl]
  · exact ⟨Nat.le_refl _, hab, Nat.le_refl _, hlim, hn, hQ, Same.refl _ _, hA, hBel, fun R h1 h2 => ⟨h1, h2⟩⟩
  · rintro K ⟨a1, b1, li, wb, wp, d1⟩ H1 ⟨haa, hab1, hbb, hli, hsz, hQ1, hS1, hA1, hB1, hfin⟩ hK
    simp only at haa hab1 hbb hli hsz hQ1 hS1 hA1 hB1 hfin
    obtain ⟨l, hll⟩ : ∃ l, l = b1 - a1 := ⟨_, rfl⟩
    have w0 : IntKind.i64.wrap ((b1 : Int) - a1) = (l : Int) := by rw [hll, i64w (by omega) (by omega)]; omega
    refine AWp.block ?_
    -- the length
    refine AWp.ofVc ?_
    simp (maxSteps := 1000000) [go_sem, w0]
    by_cases h12 : l ≤ 12
    · have h12' : (l : Int) ≤ 12 := by omega
      refine AWp.ofVc ?_
      simp (maxSteps := 1000000) [go_sem, h12, h12']
      refine insI_ok hA1 hsz hl (by omega) (by omega) hQ1 (hC.keep hS1) _ ?_
      intro H2 hS2 hA2
      obtain ⟨f1, f2⟩ := insertionSort_holds hS d1 a1 b1 (by omega) (by omega)
      obtain ⟨f3, f4⟩ := hfin _ f1 f2
      have fin := h H2 _ (hS1.trans hS2) hA2 f3 f4
      simp (maxSteps := 1000000) [go_sem]
      exact fin
    have h12' : ¬ ((l : Int) ≤ 12) := by omega
    refine AWp.ofVc ?_
    simp (maxSteps := 1000000) [go_sem, h12, h12']
    by_cases hl0 : li = 0
    · subst hl0
      refine AWp.ofVc ?_
      simp (maxSteps := 1000000) [go_sem]
      refine heapI_ok hA1 hsz hl (by omega) (by omega) hQ1 (hC.keep hS1) _ ?_
      intro H2 hS2 hA2
      obtain ⟨f1, f2⟩ := heapSort_holds hS d1 a1 b1 (by omega) (by omega)
      obtain ⟨f3, f4⟩ := hfin _ f1 f2
      have fin := h H2 _ (hS1.trans hS2) hA2 f3 f4
      simp (maxSteps := 1000000) [go_sem]
      exact fin
    have hl0' : ((li : Int) == 0) = false := by rw [beq_eq_false_iff_ne]; omega
    refine AWp.ofVc ?_
    simp (maxSteps := 1000000) [go_sem, hl0, hl0']
    -- the patterns
    refine AWp.seqCut (St := Nat × Array Int) (fun s => [(0, lv 1 id 0 n), (1, .int .i64 a1), (2, .int .i64 b1), (3, .int .i64 s.1), (4, .func (.func g) fs.toArray cs.toArray), (10, .bool wb), (11, .bool wp), (12, .int .i64 l)])
      (fun s H' => s.1 ≤ 64 ∧ QA Q s.2 ∧ Same (fun k => k = id) H H' ∧ Arr cellsI H' id s.2 ∧ PermIn a1 b1 d1 s.2) ?_ ?_
    · intro KE hKE
      cases wb with
      | true =>
        simp (maxSteps := 1000000) [go_sem]
        exact hKE (li, d1) _ _ (by simp [upF, Fr.get, Up.refl]) ⟨hli, hQ1, hS1, hA1, permIn_refl _ _ _⟩
      | false =>
        obtain ⟨lj, hlj⟩ : ∃ lj, lj = li - 1 := ⟨_, rfl⟩
        have wl : IntKind.i64.wrap ((li : Int) - 1) = (lj : Int) := by rw [hlj, i64w (by omega) (by omega)]; omega
        simp (maxSteps := 1000000) [go_sem]
        refine breakI_ok hA1 hsz hl (by omega) (by omega) hQ1 _ ?_
        intro H2 d2 hS2 hA2 hQ2 hP2
        simp (maxSteps := 1000000) [go_sem, wl]
        exact hKE (lj, d2) _ _ (by simp [upF, Fr.get, Up.refl]) ⟨by simp only; omega, hQ2, hS1.trans hS2, hA2, hP2⟩
    rintro ⟨lj, d2⟩ H2 ⟨hlj, hQ2, hS2, hA2, hP2⟩
    simp only at hlj hQ2 hS2 hA2 hP2 ⊢
    have hsz2 : d2.size = n := by rw [hP2.1]; exact hsz
    -- the pivot
    refine AWp.ofVc ?_
    simp (maxSteps := 1000000) [go_sem]
    refine pivotI_ok hA2 hsz2 hl (by omega) (by omega) hQ2 (hC.keep hS2) _ ?_
    intro H3 p t hp3 hpr
    have hS3 := hS2.via (Same.of_prefix (S := fun _ => False) hp3) (fun _ _ h => h.elim)
    have hA3 := hA2.pre hp3
    simp (maxSteps := 1000000) [go_sem]
    refine AWp.seqCut (St := Nat × Int × Array Int) (fun s => [(0, lv 1 id 0 n), (1, .int .i64 a1), (2, .int .i64 b1), (3, .int .i64 lj), (4, .func (.func g) fs.toArray cs.toArray), (10, .bool wb), (11, .bool wp), (12, .int .i64 l), (13, .int .i64 s.1), (14, .int .i64 s.2.1)])
      (fun s H' => a1 ≤ s.1 ∧ s.1 < b1 ∧ QA Q s.2.2 ∧ Same (fun k => k = id) H H' ∧ Arr cellsI H' id s.2.2 ∧ PermIn a1 b1 d2 s.2.2) ?_ ?_
    · intro KE hKE
      by_cases ht : t = 2
      · subst ht
        obtain ⟨p2, hp2⟩ : ∃ p2, p2 = b1 - 1 - (p - a1) := ⟨_, rfl⟩
        have w1 : IntKind.i64.wrap ((b1 : Int) - 1) = (b1 : Int) - 1 := i64w (by omega) (by omega)
        have w2 : IntKind.i64.wrap ((p : Int) - a1) = (p : Int) - a1 := i64w (by omega) (by omega)
        have w3 : IntKind.i64.wrap ((b1 : Int) - 1 - ((p : Int) - a1)) = (p2 : Int) := by rw [hp2, i64w (by omega) (by omega)]; omega
        simp (maxSteps := 1000000) [go_sem]
        refine reverseI_ok hA3 hsz2 hl (by omega) (by omega) _ ?_
        intro H4 hS4 hA4
        have hP4 := reverseRange_holds d2 a1 b1 (by omega) (by omega)
        simp (maxSteps := 1000000) [go_sem, w1, w2, w3]
        exact hKE (p2, 1, reverseRange d2 a1 b1) _ _ (by simp [upF, Fr.get, Up.refl]) ⟨by simp only; omega, by simp only; omega, QA_perm (by omega) hP4 hQ2, hS3.trans hS4, hA4, hP4⟩
      · have ht' : (t == 2) = false := by rw [beq_eq_false_iff_ne]; exact ht
        simp (maxSteps := 1000000) [go_sem, ht, ht']
        exact hKE (p, t, d2) _ _ (by simp [upF, Fr.get, Up.refl]) ⟨hpr.1, hpr.2, hQ2, hS3, hA3, permIn_refl _ _ _⟩
    rintro ⟨q, u, d3⟩ H4 ⟨hq1, hq2, hQ3, hS4, hA4, hP3⟩
    simp only at hq1 hq2 hQ3 hS4 hA4 hP3 ⊢
    have hsz3 : d3.size = n := by rw [hP3.1]; exact hsz2
    have hP13 := permIn_trans _ _ _ _ _ hP2 hP3
    have hB3 : Below lt a1 b1 d3 := hB1.perm (by omega) hP13
    -- it may be sorted
    refine AWp.seqCut (St := Array Int) (fun _ => [(0, lv 1 id 0 n), (1, .int .i64 a1), (2, .int .i64 b1), (3, .int .i64 lj), (4, .func (.func g) fs.toArray cs.toArray), (10, .bool wb), (11, .bool wp), (12, .int .i64 l), (13, .int .i64 q)])
      (fun d4 H' => QA Q d4 ∧ Same (fun k => k = id) H H' ∧ Arr cellsI H' id d4 ∧ PermIn a1 b1 d1 d4) ?_ ?_
    · intro KE hKE
      have skip := fun fr' hfr => hKE d3 fr' H4 hfr ⟨hQ3, hS4, hA4, hP13⟩
      cases wb with
      | false =>
        simp (maxSteps := 1000000) [go_sem, undef]
        exact skip _ (by simp [upF, Fr.get, Up.refl])
      | true =>
        cases wp with
        | false =>
          simp (maxSteps := 1000000) [go_sem, undef]
          exact skip _ (by simp [upF, Fr.get, Up.refl])
        | true =>
          by_cases hu : u = 1
          · subst hu
            simp (maxSteps := 1000000) [go_sem]
            refine partInsI_ok hA4 hsz3 hl (by omega) (by omega) hQ3 (hC.keep hS4) _ ?_
            intro H6 hS6 hA6
            obtain ⟨f1, f2⟩ := partialInsertionSort_holds hS d3 a1 b1 (by omega) (by omega) hB3
            generalize partialInsertionSort lt d3 a1 b1 = r at *
            obtain ⟨d4, ok⟩ := r
            simp only at hA6 f1 f2 ⊢
            have hP14 := permIn_trans _ _ _ _ _ hP13 f1
            cases ok with
            | true =>
              obtain ⟨f3, f4⟩ := hfin _ hP14 (f2 rfl)
              have fin := h H6 _ (hS4.trans hS6) hA6 f3 f4
              simp (maxSteps := 1000000) [go_sem]
              exact fin
            | false =>
              simp (maxSteps := 1000000) [go_sem]
              exact hKE d4 _ _ (by simp [upF, Fr.get, Up.refl]) ⟨QA_perm (by omega) f1 hQ3, hS4.trans hS6, hA6, hP14⟩
          · have hu' : (u == 1) = false := by rw [beq_eq_false_iff_ne]; exact hu
            simp (maxSteps := 1000000) [go_sem, hu, hu']
            exact skip _ (by simp [upF, Fr.get, Up.refl])
    rintro d4 H6 ⟨hQ4, hS6, hA6, hP4⟩
    clear hA4 hA3 hA2 hS2 hS3 hS4 hP2 hP3 hP13 hQ2 hQ3 hB3
    have hsz4 : d4.size = n := by rw [hP4.1]; exact hsz
    have hB4 : Below lt a1 b1 d4 := hB1.perm (by omega) hP4
    have hfin4 : ∀ R, PermIn a1 b1 d4 R → SortedIn lt a1 b1 R → PermIn a b d R ∧ SortedIn lt a b R := fun R r1 r2 => hfin R (permIn_trans _ _ _ _ _ hP4 r1) r2
    -- the element ahead
    refine AWp.seqCut (St := Unit) (fun _ => [(0, lv 1 id 0 n), (1, .int .i64 a1), (2, .int .i64 b1), (3, .int .i64 lj), (4, .func (.func g) fs.toArray cs.toArray), (10, .bool wb), (11, .bool wp), (12, .int .i64 l), (13, .int .i64 q)])
      (fun _ H' => Same (fun k => k = id) H H' ∧ Arr cellsI H' id d4) ?_ ?_
    · intro KE hKE
      by_cases ha0 : a1 = 0
      · subst ha0
        simp (maxSteps := 1000000) [go_sem]
        refine AWp.draw mixed [(0, false), (1, false), (2, false), (3, false), (4, false), (5, false), (6, false), (7, false), (8, false), (9, false), (10, false), (11, false), (12, false), (13, false), (14, false), (15, false), (16, false)] (by kernel_rfl) ?_
        simp (maxSteps := 1000000) [go_sem, undef]
        exact hKE () _ _ (by simp [upF, Fr.get, Up.refl]) ⟨hS6, hA6⟩
      · obtain ⟨r, hr⟩ : ∃ r, a1 - 1 = r := ⟨_, rfl⟩
        have wr : IntKind.i64.wrap ((a1 : Int) - 1) = (r : Int) := by rw [← hr, i64w (by omega) (by omega)]; omega
        have ha0' : (0 : Int) < a1 := by omega
        have ha1' : 0 < a1 := by omega
        have hi1 : r < d4.size := by omega
        have hi0 : q < d4.size := by omega
        have n1 : r < n := by omega
        have n0 : q < n := by omega
        have c1 := hA6.load cellsI_len hi1
        have c0 := hA6.load cellsI_len hi0
        have q1 := hQ4 _ hi1
        have q0 := hQ4 _ hi0
        obtain ⟨x, hx⟩ : ∃ x, d4[r]! = x := ⟨_, rfl⟩
        obtain ⟨y, hy⟩ : ∃ y, d4[q]! = y := ⟨_, rfl⟩
        rw [hx] at c1 q1
        rw [hy] at c0 q0
        simp only [cellsI, Nat.mul_one, Row.val] at c1 c0
        simp (maxSteps := 1000000) [go_sem]
        refine AWp.draw mixed [(0, false), (1, false), (2, false), (3, false), (4, false), (5, false), (6, false), (7, false), (8, false), (9, false), (10, false), (11, false), (12, false), (13, false), (14, false), (15, false), (16, false)] (by kernel_rfl) ?_
        simp (maxSteps := 1000000) [go_sem, ha0, ha0', ha1', c1, c0, n1, n0, wr]
        refine hC H6 x y _ hS6 q1 q0 ?_
        intro H7 c hp7 hc
        have hS7 := hS6.via (Same.of_prefix (S := fun _ => False) hp7) (fun _ _ h => h.elim)
        have hA7 := hA6.pre hp7
        cases hl' : lt x y with
        | true =>
          rw [hl'] at hc
          have hc0 := hc
          simp only [decide_eq_true_eq, decide_eq_false_iff_not] at hc0
          simp (maxSteps := 1000000) [go_sem, hc, hc0]
          exact hKE () _ _ (by simp [upF, Fr.get, Up.refl]) ⟨hS7, hA7⟩
        | false =>
          rw [hl'] at hc
          have hc0 := hc
          simp only [decide_eq_true_eq, decide_eq_false_iff_not] at hc0
          have hnl : lt d4[a1 - 1]! d4[q]! = false := by rw [hr, hx, hy]; exact hl'
          simp (maxSteps := 1000000) [go_sem, hc, hc0]
          refine partEqI_ok hA7 hsz4 hl hq1 hq2 (by omega) hQ4 (hC.keep hS7) _ ?_
          intro H8 hS8 hA8
          obtain ⟨⟨mid, d5⟩, he⟩ : ∃ r, partitionEqual lt d4 a1 b1 q = r := ⟨_, rfl⟩
          rw [he] at hA8 ⊢
          have hA8 : Arr cellsI H8 id d5 := hA8
          obtain ⟨r1, r2, r3, r4, r5⟩ := round_eq hS (partitionEqual_holds lt) ha1' hq1 hq2 (by omega) hB4 hnl he
          have hP5 : PermIn a1 b1 d4 d5 := by
            have := (partitionEqual_holds lt hS d4 a1 b1 q hq1 hq2 (by omega) (fun i hi hi' => by
              rcases hB4 with h0 | hB
              · omega
              · exact hS.ntrans _ _ _ (hB i hi hi') hnl)).2.2.1
            rw [he] at this; exact this
          simp (maxSteps := 1000000) [go_sem]
          exact hK (mid, b1, lj, wb, wp, d5) _ _ (by simp only; omega) (by simp [upF, Fr.get, Up.refl]) ⟨by simp only; omega, r2, hbb, hlj, by simp only; omega, QA_perm (by omega) hP5 hQ4, hS7.trans hS8, hA8, r4, fun R R1 R2 => by obtain ⟨g1, g2⟩ := r5 R R1 R2; exact hfin4 R g1 g2⟩
    rintro _ H7 ⟨hS7, hA7⟩
    refine AWp.ofVc ?_
    simp (maxSteps := 1000000) [go_sem]
    refine partI_ok hA7 hsz4 hl hq1 hq2 (by omega) hQ4 (hC.keep hS7) _ ?_
    intro H8 hS8 hA8
    obtain ⟨⟨mid, ap, d5⟩, he⟩ : ∃ r, partition lt d4 a1 b1 q = r := ⟨_, rfl⟩
    rw [he] at hA8 ⊢
    have hA8 : Arr cellsI H8 id d5 := hA8
    obtain ⟨r1, r2, r3, r4, r5, r6, r7⟩ := round_part hS (partition_holds lt) hq1 hq2 (by omega) hB4 he
    have hP5 : PermIn a1 b1 d4 d5 := by
      have := (partition_holds lt hS d4 a1 b1 q hq1 hq2 (by omega)).2.2.1
      rw [he] at this; exact this
    have hQ5 := QA_perm (by omega) hP5 hQ4
    have hS8 := hS7.trans hS8
    obtain ⟨ll, hll2⟩ : ∃ ll, ll = mid - a1 := ⟨_, rfl⟩
    obtain ⟨lr, hlr⟩ : ∃ lr, lr = b1 - mid := ⟨_, rfl⟩
    obtain ⟨m1, hm1⟩ : ∃ m1, m1 = mid + 1 := ⟨_, rfl⟩
    have w1 : IntKind.i64.wrap ((mid : Int) - a1) = (ll : Int) := by rw [hll2, i64w (by omega) (by omega)]; omega
    have w2 : IntKind.i64.wrap ((b1 : Int) - mid) = (lr : Int) := by rw [hlr, i64w (by omega) (by omega)]; omega
    have w3 : IntKind.i64.wrap ((l : Int) / 8) = (l : Int) / 8 := i64w (by omega) (by omega)
    have w4 : IntKind.i64.wrap ((mid : Int) + 1) = (m1 : Int) := by rw [hm1, i64w (by omega) (by omega)]; omega
    simp (maxSteps := 1000000) [go_sem]
    refine vc_sound _ _ _ _ ?_
    by_cases hlr2 : ll < lr
    · have hlr2' : (ll : Int) < lr := by omega
      simp (maxSteps := 1000000) [go_sem, w1, w2, w3, hlr2, hlr2']
      refine ih (mid - a1) (by omega) (Nat.le_refl _) hA8 (by omega) r1 (by omega) hlj r4 hQ5 (hC.keep hS8) _ ?_
      intro H9 d6 hS9 hA9 hP6 hs6
      obtain ⟨g1, g2⟩ := r6 d6 hP6 hs6
      simp (maxSteps := 1000000) [go_sem, w4]
      refine hK (m1, b1, lj, decide ((l : Int) / 8 ≤ ll), ap, d6) _ _ (by simp only; omega) (by simp [upF, Fr.get, Up.refl]) ⟨by simp only; omega, by simp only; omega, hbb, hlj, by simp only; rw [hP6.1]; omega, QA_perm (by omega) hP6 hQ5, hS8.trans hS9, hA9, by simp only [hm1]; exact g1, ?_⟩
      simp only [hm1]
      intro R R1 R2
      obtain ⟨k1, k2⟩ := g2 R R1 R2
      exact hfin4 R k1 k2
    · have hlr2' : ¬ ((ll : Int) < lr) := by omega
      simp (maxSteps := 1000000) [go_sem, w1, w2, w3, w4, hlr2, hlr2']
      refine ih (b1 - m1) (by omega) (Nat.le_refl _) hA8 (by omega) (by omega) (by omega) hlj (by rw [hm1]; exact r5) hQ5 (hC.keep hS8) _ ?_
      intro H9 d6 hS9 hA9 hP6 hs6
      rw [hm1] at hP6 hs6
      obtain ⟨g1, g2⟩ := r7 d6 hP6 hs6
      simp (maxSteps := 1000000) [go_sem]
      refine hK (a1, mid, lj, decide ((l : Int) / 8 ≤ lr), ap, d6) _ _ (by simp only; omega) (by simp [upF, Fr.get, Up.refl]) ⟨haa, r1, by simp only; omega, hlj, by simp only; rw [hP6.1]; omega, QA_perm (by omega) hP6 hQ5, hS8.trans hS9, hA9, g1, ?_⟩
      intro R R1 R2
      obtain ⟨k1, k2⟩ := g2 R R1 R2
      exact hfin4 R k1 k2

end Go.Proofs.Ytakkmkinfeddeaa
end

section
/- Sorting by a function: slices.SortFunc. -/
set_option linter.all false
set_option maxRecDepth 20000
set_option maxHeartbeats 8000000
namespace Go.Proofs.Ytakkmkinfeddeaa
open Go.Ab Go.Sort

theorem w64_0I : IntKind.i64.wrap 0 = 0 := i64w (by omega) (by omega)
theorem w64_1I : IntKind.i64.wrap 1 = 1 := i64w (by omega) (by omega)
theorem wu64_0I : IntKind.u64.wrap 0 = 0 := by rw [IntKind.wrap_u64]; omega
theorem ins0I_ok {H : Heap} {id : Nat} {fv : Value} (Post : Value → Heap → Prop) (h : Post (.tuple #[]) H) :
    ACalls Try.prog 219 [lv 1 id 0 0, .int .i64 0, .int .i64 0, fv] H Post := by
  refine acalls_vc (rs := []) Try.func219 rfl rfl Try.ntmps219 rfl rfl ?_
  simp (maxSteps := 1000000) [go_sem, w64_0I, w64_1I]
  refine AWp.loopVc (St := Unit) (fun _ => [(2, .int .i64 0), (8, .int .i64 1)]) (fun _ H' => H' = H) (fun _ => 0) () ?_ ?_ ?_
  · simp [upF, Fr.get, Up.refl]
  · rfl
  · rintro K _ H' rfl hK
    simp (maxSteps := 1000000) [go_sem, w64_0I, w64_1I]
    exact h
theorem pdq0I_ok {H : Heap} {id : Nat} {fv : Value} {l : Int} (Post : Value → Heap → Prop) (h : Post (.tuple #[]) H) :
    ACalls Try.prog 210 [lv 1 id 0 0, .int .i64 0, .int .i64 0, .int .i64 l, fv] H Post := by
  refine acalls_vc (rs := []) Try.func210 rfl rfl Try.ntmps210 rfl rfl ?_
  simp (maxSteps := 1000000) [go_sem, w64_0I, w64_1I]
  refine AWp.loopA (St := Unit) (fun _ => [(0, lv 1 id 0 0), (1, .int .i64 0), (2, .int .i64 0), (4, fv)]) (fun _ H' => H' = H) (fun _ => 0) () ?_ ?_ ?_
  · simp [upF, Fr.get, Up.refl]
  · rfl
  · rintro K _ H' rfl hK
    refine AWp.block ?_
    refine AWp.ofVc ?_
    simp (maxSteps := 1000000) [go_sem, w64_0I, w64_1I]
    refine AWp.ofVc ?_
    simp (maxSteps := 1000000) [go_sem, w64_0I, w64_1I]
    refine ins0I_ok _ ?_
    simp (maxSteps := 1000000) [go_sem, w64_0I, w64_1I]
    exact h

/-- slices.SortFunc: afterwards the same elements are there, ascending. -/
theorem sortFuncI_ok {H : Heap} {id n : Nat} {l : List Int} {lt : Int → Int → Bool} {g : FuncId} {fs cs : List Value} {Q : Int → Prop} (hS : SWO lt) (hA : OL 1 H id (l.flatMap cellsI) n) (hn : l.length = n) (hl : n ≤ 1048576) (hQ : ∀ x ∈ l, Q x)
    (hC : Cmp Try.prog valI lt g fs cs Q id H) (Post : Value → Heap → Prop)
    (h : ∀ (H' : Heap) (l' : List Int), Same (fun k => k = id) H H' → OL 1 H' id (l'.flatMap cellsI) n → l'.Perm l → l'.Pairwise (fun x y => lt y x = false) → Post (.tuple #[]) H') :
    ACalls Try.prog 188 [lv 1 id 0 n, .func (.func g) fs.toArray cs.toArray] H Post := by
  refine acalls_vc (rs := []) Try.func188 rfl rfl Try.ntmps188 rfl rfl ?_
  have w1 : IntKind.u64.wrap (n : Int) = n := by rw [IntKind.wrap_u64]; omega
  rcases hA.2 with ⟨h0, hg⟩ | hb
  · subst h0
    have hnil : l = [] := List.eq_nil_of_length_eq_zero hn
    subst hnil
    simp (maxSteps := 1000000) [go_sem, wu64_0I]
    refine bitsLenC_ok (x := 0) (by omega) _ ?_
    simp (maxSteps := 1000000) [go_sem]
    refine pdq0I_ok _ ?_
    simp (maxSteps := 1000000) [go_sem]
    exact h H [] (Same.refl _ _) hA (List.Perm.refl _) List.Pairwise.nil
  · have hA' : Arr cellsI H id l.toArray := by unfold Arr; simpa using hb
    have hQ' : QA Q l.toArray := by
      intro k hk
      rw [getElem!_pos l.toArray k hk]
      exact hQ _ (by simp)
    simp (maxSteps := 1000000) [go_sem, w1]
    refine bitsLenC_ok (by omega) _ ?_
    have hb64 : bitsLen n ≤ 64 := bitsLen_lt (by omega)
    simp (maxSteps := 1000000) [go_sem]
    refine pdqI_ok hS hl n (a := 0) (limit := bitsLen n) (by omega) hA' (by simpa using hn) (Nat.zero_le _) (Nat.le_refl _) hb64 (.inl rfl) hQ' hC _ ?_
    intro H' d' hS' hA2 hP hs
    have hsz : d'.size = n := by rw [hP.1]; simpa using hn
    have hp := perm_list (by simpa using hn) hP
    have fin := h H' d'.toList hS' ⟨by rw [flat_len cellsI_len, Array.length_toList, hsz], .inr hA2⟩ (by simpa using hp) (sorted_list hsz hs)
    simp (maxSteps := 1000000) [go_sem]
    exact fin

end Go.Proofs.Ytakkmkinfeddeaa
end

section
/- Types of pairs of points: the tested program's side; TypeOf. -/
set_option linter.all false
set_option maxRecDepth 20000
set_option maxHeartbeats 8000000
namespace Go.Proofs.Ytakkmkinfeddeaa
open Go.Ab Go.Sort

def gtI (x y : Int) : Bool := decide (y < x)
theorem swoGt : SWO gtI := by
  refine ⟨fun x => ?_, fun x y z h1 h2 => ?_, fun x y z h1 h2 => ?_⟩ <;> simp only [gtI, decide_eq_true_eq, decide_eq_false_iff_not] at * <;> omega
theorem typeCmp {id : Nat} {H : Heap} : Cmp Try.prog valI gtI 189 [] [] (fun _ => True) id H := by
  intro H x y Post _ _ _ h
  show ACalls Try.prog 189 [.int .i64 x, .int .i64 y] H Post
  refine acalls_vc (rs := [.tmp 4]) Try.func189 rfl rfl Try.ntmps189 rfl rfl ?_
  simp (maxSteps := 1000000) [go_sem]
  refine cmpCompare_ok _ ?_
  have fin := fun c hc => h H c (List.prefix_refl _) hc
  have key : ∀ c : Int, (c = if y < x then -1 else if x < y then 1 else 0) → decide (c < 0) = gtI x y := by
    intro c hc
    subst hc
    unfold gtI
    by_cases h1 : y < x
    · simp [h1]
    · by_cases h2 : x < y <;> simp [h1, h2]
  have fin := fin _ (key _ rfl)
  generalize (if y < x then (-1 : Int) else if x < y then 1 else 0) = c at *
  simp (maxSteps := 1000000) [go_sem]
  exact fin

theorem typeOf_ok {H : Heap} {u : Value} {gid : Nat} {gs : List Int} {v a b : Nat} {bs : List Bk} (hu : u.oneCell' = true) (hS : IsSys v bs) (hf : fullB v bs = true) (hga : GridAt H gid gs) (hgo : GridOf gs bs) (hab : a ≠ b) (ha : a < v) (hb : b < v) (Post : Value → Heap → Prop)
    (h : ∀ H' w, H <+: H' → IntsIn H.length H'.length H' w (descI (cycLens v a b bs)) → Post w H') :
    ACalls Try.prog 142 [sysV v u, .pointer (some ⟨gid, 0, none⟩), .int .i64 a, .int .i64 b] H Post := by
  have hv := hS.1
  have hlen := cycLens_len v a b bs
  refine ACalls.res ?_
  refine acalls_vc (rs := [.tmp 8]) Try.func142 rfl rfl Try.ntmps142 rfl rfl ?_
  simp (maxSteps := 1000000) [go_sem, sysV, hu]
  have hp0 : H <+: H ++ [⟨[.int .i64 v, u], true, true⟩] := List.prefix_append _ _
  generalize H ++ [(⟨[.int .i64 v, u], true, true⟩ : Blk)] = H0 at hp0 ⊢
  refine cycles_ok hu hS hf (hga.keep hp0) hgo hab ha hb _ ?_
  intro H1 w hp1 hw
  have hr := hw.read
  obtain ⟨xss, hxss⟩ : ∃ x, x = cycRows (thr bs a) (thr bs b) (upTo 0 v) [a, b, thr bs a b] := ⟨_, rfl⟩
  have hcl : cycLens v a b bs = xss.map fun r => (r.length : Int) := by rw [hxss]; rfl
  rw [← hxss] at hr hw
  rw [hcl] at h hlen
  have hxl : xss.length ≤ v := by simpa using hlen
  obtain ⟨i, o, ew, hrow⟩ : ∃ i o, w = lv 1 i o xss.length ∧ ∀ k, (hk : k < xss.length) → ∀ {H' : Heap}, H1 <+: H' → ∃ i' o', cellsAt H' i (o + k) 1 = some [lv 1 i' o' xss[k].length] ∧ IntsAt H' (lv 1 i' o' xss[k].length) xss[k] := by
    obtain ⟨i, o, vs, h1, h2, h3, h4, h5⟩ := hr
    refine ⟨i, o, h1, fun k hk H' hp => ?_⟩
    have hv : vs[k]? = some (vs[k]'(by omega)) := List.getElem?_eq_getElem (by omega)
    obtain ⟨i', o', e1, e2, e3⟩ := h4 k _ xss[k] hv (List.getElem?_eq_getElem hk)
    have c := (h3.pre hp).cell hv
    rw [e1] at c
    exact ⟨i', o', c, i', o', rfl, e2.pre hp, e3⟩
  subst ew
  simp (maxSteps := 1000000) [go_sem]
  refine AWp.addGhost ?_
  refine AWp.loopVc (St := Nat × Nat) (fun s => [(9, lv 1 s.2 0 s.1), (16, lv 1 i o xss.length), (17, .int .i64 xss.length), (18, .int .i64 s.1)])
    (fun s H' => s.1 ≤ xss.length ∧ Bl 1 H1 H' s.2 (ints ((xss.take s.1).map fun r => (r.length : Int))) s.1) (fun s => xss.length - s.1) (0, H1.length) ?_ ?_ ?_
  · simp [upF, Fr.get, Up.refl, Up.nil]
  · exact ⟨by simp, by simpa [ints] using Bl.ghost 1 H1⟩
  · rintro K ⟨s, id⟩ H' ⟨hs, hbl⟩ hK
    simp only at hs hbl
    by_cases hlt : s < xss.length
    · obtain ⟨i', o', c1, _, _, _, _, hz⟩ := hrow s hlt hbl.1
      have hw_s : IntKind.i64.wrap ((s : Int) + 1) = (s : Int) + 1 := i64w (by omega) (by omega)
      have hsn : (xss.take (s + 1)).map (fun r => (r.length : Int)) = (xss.take s).map (fun r => (r.length : Int)) ++ [(xss[s].length : Int)] := by rw [List.take_succ_eq_append_getElem hlt, List.map_append]; rfl
      generalize xss[s].length = m at *
      obtain ⟨hsrc, H4, hap, hbl4⟩ := hbl.push (xs := [.int .i64 (m : Int)]) (by omega) rfl
      rw [show ints ((xss.take s).map fun r => (r.length : Int)) ++ [Value.int .i64 (m : Int)] = ints ((xss.take (s + 1)).map fun r => (r.length : Int)) by rw [hsn, ← ints_append]; rfl] at hbl4
      simp (maxSteps := 1000000) [go_sem, hlt, c1, hsrc, hap, hw_s]
      exact andK_intro (by omega) (hK (s + 1, H'.length + 1) _ _ (by simp only; omega) (by simp [upF, Fr.get, Up.refl]) ⟨by simp only; omega, hbl4⟩)
    · have : s = xss.length := by omega
      subst this
      rw [List.take_length] at hbl
      have hol := hbl.2.1
      have e0 : ints (xss.map fun r => (r.length : Int)) = (xss.map fun r => (r.length : Int)).flatMap cellsI := by
        generalize (xss.map fun r => (r.length : Int)) = l
        induction l with
        | nil => rfl
        | cons x l ih => simp only [ints, List.map_cons, List.flatMap_cons, cellsI] at ih ⊢; rw [ih]; rfl
      rw [e0] at hol
      simp (maxSteps := 1000000) [go_sem]
      refine sortFuncI_ok (fs := []) (cs := []) (Q := fun _ => True) (l := xss.map fun r => (r.length : Int)) swoGt hol (by simp) (by omega) (fun _ _ => trivial) typeCmp _ ?_
      intro H2 l2 hs2 hol2 hperm hsorted
      have e2 : l2 = descI (xss.map fun r => (r.length : Int)) := desc_uniq hperm (hsorted.imp fun h => by simp only [gtI, decide_eq_false_iff_not] at h; omega)
      have e3 : l2.flatMap cellsI = ints l2 := by
        generalize l2 = l
        induction l with
        | nil => rfl
        | cons x l ih => simp only [ints, List.map_cons, List.flatMap_cons, cellsI] at ih ⊢; rw [ih]; rfl
      rw [e3, e2] at hol2
      have hle := (hp0.trans hp1).length_le
      have hp2 : H <+: H2 := ((Same.of_prefix (hp0.trans (hp1.trans hbl.1))).trans hs2).prefix (by have := hbl.2.2; intro j hj e; omega)
      have hlast : IntsIn H.length H2.length H2 (lv 1 id 0 xss.length) (descI (xss.map fun r => (r.length : Int))) := by
        have hdl : (descI (xss.map fun r => (r.length : Int))).length = xss.length := by rw [descI_length, List.length_map]
        refine ⟨id, ⟨by rw [hdl], ?_, by rw [hdl]; omega⟩, fun _ => ⟨by have := hbl.2.2; omega, hol2.lt⟩⟩
        rcases hol2.2 with ⟨e, _⟩ | e
        · left; exact List.eq_nil_of_length_eq_zero (by rw [hdl]; exact e)
        · right; exact e
      have fin := h H2 _ hp2 hlast
      simp (maxSteps := 1000000) [go_sem]
      exact ⟨_, Up.refl _ _, fin⟩

noncomputable def rTyp (p : Int) (bs : List Bk) (a b : Int) : List Int × Int :=
  if pairCode p bs a b = 0 then (if fullB p bs then (descI (cycLens p.toNat a.toNat b.toNat bs), 0) else ([], 5)) else ([], pairCode p bs a b)

theorem implTypeOf_ok {H : Heap} {u : Value} {p a b : Int} {bs : List Bk} (hu : BlocksAt H u bs) (hl : bs.length ≤ 1048576) (ha : In64 a) (hb : In64 b) (Post : Value → Heap → Prop)
    (h : ∀ H' w, H <+: H' → IntsIn H.length H'.length H' w (rTyp p bs a b).1 → Post (.tuple #[w, .int .i64 (rTyp p bs a b).2]) H') :
    ACalls Try.prog 68 [sysV p u, .int .i64 a, .int .i64 b] H Post := by
  refine ACalls.res ?_
  refine acalls_vc (rs := [.tmp 6, .tmp 7]) Try.func68 rfl rfl Try.ntmps68 rfl rfl ?_
  simp (maxSteps := 1000000) [go_sem, sysV, hu.one]
  have hp0 : H <+: H ++ [⟨[.int .i64 p, u], true, true⟩] := List.prefix_append _ _
  have hx0 := Holds.last H [.int .i64 p, u]
  generalize H ++ [(⟨[.int .i64 p, u], true, true⟩ : Blk)] = H0 at hp0 hx0 ⊢
  have bad : ∀ (H' : Heap) (c : Int), H <+: H' → rTyp p bs a b = ([], c) → ∃ v', Up H' (.tuple #[.slice none 0 0, .int .i64 c]) v' ∧ Post v' H' := by
    intro H' c hp hr
    refine ⟨_, Up.tuple (ys := #[lv 1 0 0 0, .int .i64 c]) ⟨Up.nil _ _ _ _, Up.refl _ _, trivial⟩, ?_⟩
    have := h H' (lv 1 0 0 0) hp (by rw [hr]; exact IntsIn.nil _ _ _)
    rwa [hr] at this
  refine pairCode_ok (hu.pre hp0) _ ?_
  intro H1 hp1
  obtain ⟨d0, d1, d2⟩ := (hx0.pre hp1).sys
  by_cases hc : pairCode p bs a b = 0
  · obtain ⟨hS, ⟨ha0, ha1⟩, ⟨hb0, hb1⟩, hab⟩ := pairCode_good hc
    have hp := hS.1
    simp (maxSteps := 1000000) [go_sem, hc, d0]
    refine fullCode_ok (hu.pre (hp0.trans hp1)) hp hl _ ?_
    intro H2 hp2
    obtain ⟨d0, d1, d2⟩ := (hx0.pre (hp1.trans hp2)).sys
    cases hf : fullB p bs with
    | false =>
      simp (maxSteps := 1000000) [go_sem]
      exact bad H2 5 (hp0.trans (hp1.trans hp2)) (by simp [rTyp, hc, hf])
    | true =>
      obtain ⟨v, rfl⟩ : ∃ n : Nat, p = n := ⟨p.toNat, by omega⟩
      obtain ⟨x, rfl⟩ : ∃ n : Nat, a = n := ⟨a.toNat, by omega⟩
      obtain ⟨y, rfl⟩ : ∃ n : Nat, b = n := ⟨b.toNat, by omega⟩
      simp (maxSteps := 1000000) [go_sem]
      refine AWp.draw mixed [(0, false), (1, false), (3, false), (4, false), (2, true), (5, false), (6, false), (7, false)] (by kernel_rfl) ?_
      simp (maxSteps := 1000000) [go_sem, d0]
      refine sysGrid_ok (hu.pre (hp0.trans (hp1.trans hp2))) hS.good15 hS.2.2.2 _ ?_
      intro H3 gid gs hp3 _ hga hgo
      simp (maxSteps := 1000000) [go_sem, hp3]
      refine typeOf_ok hu.one hS hf hga hgo (by omega) (by omega) (by omega) _ ?_
      intro H4 w hp4 hw
      have hpre := hp0.trans (hp1.trans (hp2.trans hp3))
      have hr : rTyp v bs x y = (descI (cycLens v x y bs), 0) := by simp [rTyp, hc, hf]
      have fin := h H4 w (hpre.trans hp4) (by rw [hr]; exact hw.wider hpre.length_le)
      rw [hr] at fin
      simp (maxSteps := 1000000) [go_sem, hp4]
      exact ⟨_, Up.refl _ _, fin⟩
  · have hc2 : (pairCode p bs a b != 0) = true := by simpa using hc
    simp (maxSteps := 1000000) [go_sem, hc2]
    exact bad H1 _ (hp0.trans hp1) (by simp [rTyp, hc])

theorem specTypeOf_ok {H : Heap} {u : Value} {p a b : Int} {bs : List Bk} (hu : BlocksAt H u bs) (hl : bs.length ≤ 1048576) (ha : In64 a) (hb : In64 b) (Post : Value → Heap → Prop)
    (h : ∀ H' w, H <+: H' → IntsIn H.length H'.length H' w (rTyp p bs a b).1 → Post (.tuple #[w, .int .i64 (rTyp p bs a b).2]) H') :
    ACalls Try.prog 67 [sysV p u, .int .i64 a, .int .i64 b] H Post := by
  refine ACalls.res ?_
  refine acalls_vc (rs := [.tmp 6, .tmp 7]) Try.func67 rfl rfl Try.ntmps67 rfl rfl ?_
  simp (maxSteps := 1000000) [go_sem, sysV, hu.one]
  have hp0 : H <+: H ++ [⟨[.int .i64 p, u], true, true⟩] := List.prefix_append _ _
  have hx0 := Holds.last H [.int .i64 p, u]
  generalize H ++ [(⟨[.int .i64 p, u], true, true⟩ : Blk)] = H0 at hp0 hx0 ⊢
  have bad : ∀ (H' : Heap) (c : Int), H <+: H' → rTyp p bs a b = ([], c) → ∃ v', Up H' (.tuple #[.slice none 0 0, .int .i64 c]) v' ∧ Post v' H' := by
    intro H' c hp hr
    refine ⟨_, Up.tuple (ys := #[lv 1 0 0 0, .int .i64 c]) ⟨Up.nil _ _ _ _, Up.refl _ _, trivial⟩, ?_⟩
    have := h H' (lv 1 0 0 0) hp (by rw [hr]; exact IntsIn.nil _ _ _)
    rwa [hr] at this
  refine l03Code_ok (hu.pre hp0) hl ha hb _ ?_
  intro H1 hp1
  obtain ⟨d0, d1, d2⟩ := (hx0.pre hp1).sys
  by_cases hc : pairCode p bs a b = 0
  · obtain ⟨hS, ⟨ha0, ha1⟩, ⟨hb0, hb1⟩, hab⟩ := pairCode_good hc
    have hp := hS.1
    cases hf : fullB p bs with
    | false =>
      have e : cCode p bs a b = 5 := by simp [cCode, hc, hf]
      simp (maxSteps := 1000000) [go_sem, e]
      exact bad H1 5 (hp0.trans hp1) (by simp [rTyp, hc, hf])
    | true =>
      have e : cCode p bs a b = 0 := by simp [cCode, hc, hf]
      obtain ⟨v, rfl⟩ : ∃ n : Nat, p = n := ⟨p.toNat, by omega⟩
      obtain ⟨x, rfl⟩ : ∃ n : Nat, a = n := ⟨a.toNat, by omega⟩
      obtain ⟨y, rfl⟩ : ∃ n : Nat, b = n := ⟨b.toNat, by omega⟩
      simp (maxSteps := 1000000) [go_sem, e, d0]
      refine l03Type_ok (hu.pre (hp0.trans hp1)) hS hf (by omega) (by omega) (by omega) _ ?_
      intro H4 w hp4 hw
      have hpre := hp0.trans hp1
      have hr : rTyp v bs x y = (descI (cycLens v x y bs), 0) := by simp [rTyp, hc, hf]
      have fin := h H4 w (hpre.trans hp4) (by rw [hr]; exact hw.wider hpre.length_le)
      rw [hr] at fin
      simp (maxSteps := 1000000) [go_sem, hp4]
      exact ⟨_, Up.refl _ _, fin⟩
  · have e : cCode p bs a b = pairCode p bs a b := by simp [cCode, hc]
    have hc2 : (pairCode p bs a b != 0) = true := by simpa using hc
    simp (maxSteps := 1000000) [go_sem, e, hc2]
    exact bad H1 _ (hp0.trans hp1) (by simp [rTyp, hc])

end Go.Proofs.Ytakkmkinfeddeaa
end

section
/- Lists compared: l03Less, l03Same, slices.Equal. -/
set_option linter.all false
set_option maxRecDepth 20000
set_option maxHeartbeats 8000000
namespace Go.Proofs.Ytakkmkinfeddeaa
open Go.Ab Go.Sort

theorem l03Less_ok {H : Heap} {u w : Value} {xs ys : List Int} (hu : IntsAt H u xs) (hw : IntsAt H w ys) (Post : Value → Heap → Prop) (h : Post (.bool (ltL xs ys)) H) : ACalls Try.prog 213 [u, w] H Post := by
  obtain ⟨i, o, rfl, h1, h2⟩ := hu
  obtain ⟨j, q, rfl, h3, h4⟩ := hw
  refine acalls_vc (rs := [.tmp 4]) Try.func213 rfl rfl Try.ntmps213 rfl rfl ?_
  simp (maxSteps := 1000000) [go_sem]
  refine AWp.loopVc (St := Nat) (fun s => [(0, lv 1 i o xs.length), (1, lv 1 j q ys.length), (5, .int .i64 s)])
    (fun s H' => s ≤ xs.length ∧ s ≤ ys.length ∧ H' = H ∧ ltL xs ys = ltL (xs.drop s) (ys.drop s)) (fun s => xs.length - s) 0 ?_ ?_ ?_
  · simp [upF, Fr.get, Up.refl]
  · exact ⟨by omega, by omega, rfl, by simp⟩
  · rintro K s H' ⟨hs, hs', rfl, hf⟩ hK
    by_cases hlt : s < xs.length
    · have hdx : xs.drop s = xs[s] :: xs.drop (s + 1) := List.drop_eq_getElem_cons hlt
      have c1 := h1.cell (k := s) (v := .int .i64 xs[s]) (by simp [ints_get, hlt])
      have hw_s : IntKind.i64.wrap ((s : Int) + 1) = (s : Int) + 1 := i64w (by omega) (by omega)
      by_cases hly : s < ys.length
      · have hdy : ys.drop s = ys[s] :: ys.drop (s + 1) := List.drop_eq_getElem_cons hly
        have c2 := h3.cell (k := s) (v := .int .i64 ys[s]) (by simp [ints_get, hly])
        rw [hdx, hdy, ltL_cons] at hf
        generalize xs[s] = x at *
        generalize ys[s] = y at *
        simp (maxSteps := 1000000) [go_sem, undef, hlt, hly]
        refine AWp.draw mixed [(0, false), (1, false), (2, false), (3, false), (4, false), (5, false), (6, false), (7, false), (8, false)] (by kernel_rfl) ?_
        simp (maxSteps := 1000000) [go_sem, undef, hlt, hly, c1, c2]
        refine condK_intro (fun hne => ?_) (fun hne => ?_)
        · have hne : x ≠ y := by simpa using hne
          refine AWp.draw mixed [(0, false), (1, false), (2, false), (3, false), (4, false), (5, false), (6, false), (7, false), (8, false), (9, false)] (by kernel_rfl) ?_
          simp (maxSteps := 1000000) [go_sem, c1, c2]
          have e : ltL xs ys = decide (x < y) := by rw [hf]; simp [hne]
          rw [e] at h; exact andK_intro hlt (andK_intro hly h)
        · have hne : x = y := by simpa using hne
          subst hne
          simp (maxSteps := 1000000) [go_sem, hw_s]
          exact hK (s + 1) _ _ (by omega) (by simp [upF, Fr.get, Up.refl]) ⟨by omega, by omega, rfl, by rw [hf]; simp⟩
      · have hly' : ys.length ≤ s := by omega
        have e : ltL xs ys = false := by rw [hf, hdx, List.drop_eq_nil_of_le hly', ltL_cons_nil]
        have e2 : ¬ xs.length < ys.length := by omega
        rw [e] at h
        simp (maxSteps := 1000000) [go_sem, undef, hlt, hly, e2]
        have e3 : decide (xs.length < ys.length) = false := decide_eq_false e2
        first | exact h | (rw [e3]; exact h)
    · have : s = xs.length := by omega
      subst this
      have e : ltL xs ys = decide (xs.length < ys.length) := by
        rw [hf, List.drop_eq_nil_of_le (Nat.le_refl _), ltL_nil]
        by_cases hl : xs.length < ys.length
        · rw [List.drop_eq_getElem_cons hl]; simp [hl]
        · rw [List.drop_eq_nil_of_le (by omega)]; simp [hl]
      rw [e] at h
      simp (maxSteps := 1000000) [go_sem, undef]
      exact h

theorem ltL_same (x y : List Int) : (!ltL x y && !ltL y x) = decide (x = y) := by
  by_cases e : x = y
  · subst e; simp [ltL_irrefl]
  · cases h1 : ltL x y with
    | true => simp [e]
    | false =>
      cases h2 : ltL y x with
      | true => simp [e]
      | false => exact absurd (ltL_total _ _ h1 h2) e
theorem l03Same_ok {H : Heap} {u w : Value} {xs ys : List Int} (hu : IntsAt H u xs) (hw : IntsAt H w ys) (Post : Value → Heap → Prop) (h : Post (.bool (decide (xs = ys))) H) : ACalls Try.prog 192 [u, w] H Post := by
  rw [← ltL_same] at h
  refine acalls_vc (rs := [.tmp 4]) Try.func192 rfl rfl Try.ntmps192 rfl rfl ?_
  simp (maxSteps := 1000000) [go_sem]
  refine l03Less_ok hu hw _ ?_
  cases h1 : ltL xs ys with
  | true =>
    simp (maxSteps := 1000000) [go_sem, undef]
    rw [h1] at h; exact h
  | false =>
    simp (maxSteps := 1000000) [go_sem, undef]
    refine l03Less_ok hw hu _ ?_
    simp (maxSteps := 1000000) [go_sem]
    rw [h1] at h
    simpa using h

theorem equalI_ok {H : Heap} {u w : Value} {l k : List Int} (hu : IntsAt H u l) (hw : IntsAt H w k) (Post : Value → Heap → Prop)
    (h : Post (.bool (decide (l = k))) H) : ACalls Try.prog 148 [u, w] H Post := by
  obtain ⟨i, o, rfl, h1, hl⟩ := hu
  obtain ⟨j, q, rfl, h2, hl'⟩ := hw
  refine acalls_vc (rs := [.tmp 4]) Try.func148 rfl rfl Try.ntmps148 rfl rfl ?_
  by_cases hnm : l.length = k.length
  · obtain ⟨n, hn⟩ : ∃ n, n = l.length := ⟨_, rfl⟩
    rw [← hnm, ← hn]
    simp (maxSteps := 1000000) [go_sem]
    refine AWp.loopVc (fun s : Nat => [(0, lv 1 i o n), (1, lv 1 j q n), (12, .int .i64 n), (13, .int .i64 s)]) (fun s H' => s ≤ n ∧ H' = H ∧ l.take s = k.take s) (fun s => n - s) 0 ?_ ?_ ?_
    · simp [upF, Fr.get, Up.refl]
    · exact ⟨by omega, rfl, by simp⟩
    · rintro K s H' ⟨hs, rfl, hf⟩ hK
      by_cases hlt : s < n
      · have c1 := h1.cell (k := s) (v := .int .i64 (l[s]'(by omega))) (by simp [ints_get, show s < l.length by omega])
        have c2 := h2.cell (k := s) (v := .int .i64 (k[s]'(by omega))) (by simp [ints_get, show s < k.length by omega])
        have t1 := List.take_succ_eq_append_getElem (show s < l.length by omega)
        have t2 := List.take_succ_eq_append_getElem (show s < k.length by omega)
        have hne : l[s]'(by omega) ≠ k[s]'(by omega) → decide (l = k) = false := by
          intro hne
          rw [decide_eq_false_iff_not]
          intro e; subst e; exact hne rfl
        generalize l[s]'(by omega) = x at *
        generalize k[s]'(by omega) = y at *
        have hw_s : IntKind.i64.wrap ((s : Int) + 1) = (s : Int) + 1 := i64w (by omega) (by omega)
        simp (maxSteps := 1000000) [go_sem, hlt]
        refine AWp.draw mixed [(0, false), (1, false), (2, false), (3, false), (4, false), (5, false), (6, false), (7, false), (8, false)] (by kernel_rfl) ?_
        simp (maxSteps := 1000000) [go_sem, hlt, c1, c2, hw_s]
        refine condK_intro (fun hh => ?_) (fun hh => ?_)
        · have : x ≠ y := by rintro rfl; simp at hh
          rw [hne this] at h
          exact h
        · have hxy : x = y := by simpa using hh
          refine hK (s + 1) _ _ (by omega) (by simp [upF, Fr.get, Up.refl]) ⟨by omega, rfl, ?_⟩
          rw [t1, t2, hf, hxy]
      · have : s = n := by omega
        subst this
        have e : l = k := by
          rw [List.take_of_length_le (by omega), List.take_of_length_le (by omega)] at hf
          exact hf
        have e' : decide (l = k) = true := decide_eq_true e
        rw [e'] at h
        simp (maxSteps := 1000000) [go_sem]
        exact h
  · have hnm' : ((l.length : Int) != (k.length : Int)) = true := by simp; omega
    have e : decide (l = k) = false := by
      rw [decide_eq_false_iff_not]
      intro e; subst e; omega
    rw [e] at h
    simp (maxSteps := 1000000) [go_sem, hnm, hnm']
    exact h

end Go.Proofs.Ytakkmkinfeddeaa
end

section
/- Sorting by a function: insertion sort. -/
set_option linter.all false
set_option maxRecDepth 20000
set_option maxHeartbeats 4000000
namespace Go.Proofs.Ytakkmkinfeddeaa
open Go.Ab Go.Sort

theorem insS_ok {H : Heap} {id a b n : Nat} {d : Array Row} {lt : Row → Row → Bool} {g : FuncId} {fs cs : List Value} {Q : Row → Prop} (hA : Arr Row.cells H id d) (hn : d.size = n) (hl : n ≤ 1048576) (hab : a ≤ b) (hb : b ≤ n) (hQ : QA Q d)
    (hC : Cmp Try.prog Row.val lt g fs cs Q id H) (Post : Value → Heap → Prop) (h : ∀ H', Same (fun k => k = id) H H' → Arr Row.cells H' id (insertionSort lt d a b) → Post (.tuple #[]) H') :
    ACalls Try.prog 229 [lv 1 id 0 n, .int .i64 a, .int .i64 b, .func (.func g) fs.toArray cs.toArray] H Post := by
  refine acalls_vc (rs := []) Try.func229 rfl rfl Try.ntmps229 rfl rfl ?_
  have w0 : IntKind.i64.wrap ((a : Int) + 1) = (a : Int) + 1 := i64w (by omega) (by omega)
  simp (maxSteps := 1000000) [go_sem, w0]
  refine AWp.loopVc (St := Nat × Array Row) (fun s => [(0, lv 1 id 0 n), (1, .int .i64 a), (2, .int .i64 b), (3, .func (.func g) fs.toArray cs.toArray), (8, .int .i64 s.1)])
    (fun s H' => a + 1 ≤ s.1 ∧ s.1 ≤ n + 1 ∧ s.2.size = n ∧ QA Q s.2 ∧ Same (fun k => k = id) H H' ∧ Arr Row.cells H' id s.2 ∧ insOuter lt a b s.1 s.2 = insertionSort lt d a b) (fun s => n + 1 - s.1) (a + 1, d) ?_ ?_ ?_
  · simp [upF, Fr.get, Up.refl]
  · exact ⟨Nat.le_refl _, by simp only; omega, hn, hQ, Same.refl _ _, hA, rfl⟩
  · rintro K ⟨i, d1⟩ H' ⟨hai, hin, hsz, hQ1, hS, hA1, hO⟩ hK
    simp only at hai hin hsz hQ1 hS hA1 hO
    rw [insOuter] at hO
    by_cases hlt : i < b
    · rw [if_pos hlt] at hO
      have hw_i : IntKind.i64.wrap ((i : Int) + 1) = (i : Int) + 1 := i64w (by omega) (by omega)
      simp (maxSteps := 1000000) [go_sem, hlt]
      refine AWp.loopVc (St := Nat × Array Row) (fun s => [(0, lv 1 id 0 n), (1, .int .i64 a), (2, .int .i64 b), (3, .func (.func g) fs.toArray cs.toArray), (8, .int .i64 i), (9, .int .i64 s.1)])
        (fun s H2 => a ≤ s.1 ∧ s.1 ≤ i ∧ s.2.size = n ∧ QA Q s.2 ∧ Same (fun k => k = id) H H2 ∧ Arr Row.cells H2 id s.2 ∧ insInner lt a s.1 s.2 = insInner lt a i d1) (fun s => s.1) (i, d1) ?_ ?_ ?_
      · simp [upF, Fr.get, Up.refl]
      · exact ⟨by simp only; omega, Nat.le_refl _, hsz, hQ1, hS, hA1, rfl⟩
      · rintro K2 ⟨j, d2⟩ H2 ⟨haj, hji, hsz2, hQ2, hS2, hA2, hI⟩ hK2
        simp only at haj hji hsz2 hQ2 hS2 hA2 hI
        by_cases hja : a < j
        · obtain ⟨r, rfl⟩ : ∃ r, j = r + 1 := ⟨j - 1, by omega⟩
          have hr1 : r + 1 < d2.size := by omega
          have hr0 : r < d2.size := by omega
          have c1 := hA2.load Row.cells_len hr1
          have c0 := hA2.load Row.cells_len hr0
          have q1 := hQ2 _ hr1
          have q0 := hQ2 _ hr0
          rw [insInner] at hI
          obtain ⟨x, hx⟩ : ∃ x, x = d2[r + 1]! := ⟨_, rfl⟩
          obtain ⟨y, hy⟩ : ∃ y, y = d2[r]! := ⟨_, rfl⟩
          rw [← hx] at c1 q1 hI
          rw [← hy] at c0 q0 hI
          have e1 : decide (r + 1 > a) = true := decide_eq_true hja
          rw [e1, Bool.true_and] at hI
          simp only [Row.cells, Nat.mul_one, Row.val] at c1 c0
          have n1 : r + 1 < n := by omega
          have n0 : r < n := by omega
          have m1 : (r : Int) + 1 < n := by omega
          have m0 : (r : Int) < n := by omega
          have z1 : (0 : Int) ≤ (r : Int) + 1 := by omega
          have hwr : IntKind.i64.wrap (r : Int) = (r : Int) := i64w (by omega) (by omega)
          have ja : (a : Int) < (r : Int) + 1 := by omega
          refine AWp.draw mixed [(0, false), (1, false), (2, false), (3, false), (4, false), (5, false), (6, false), (7, false), (8, false), (9, false), (10, false), (11, false), (12, false), (13, false), (14, false), (15, false), (16, false)] (by kernel_rfl) ?_
          simp (maxSteps := 1000000) [go_sem, hja, ja, c1, c0, n1, n0, m1, m0, z1, hwr]
          refine hC H2 x y _ hS2 q1 q0 ?_
          intro H3 c hp3 hc
          have hS3 := hS2.via (Same.of_prefix (S := fun _ => False) hp3) (fun _ _ h => h.elim)
          have hA3 := hA2.pre hp3
          cases hxy : lt x y with
          | false =>
            rw [hxy] at hc hI
            have hc0 : ¬ c < 0 := by simpa using hc
            simp (maxSteps := 1000000) [go_sem, hc, hc0, hw_i]
            exact hK (i + 1, d2) _ _ (by simp only; omega) (by simp [upF, Fr.get, Up.refl]) ⟨by simp only; omega, by simp only; omega, hsz2, hQ2, hS3, hA3, by simp only; rw [← hO, ← hI]; simp⟩
          | true =>
            rw [hxy] at hc hI
            have hc0 : c < 0 := by simpa using hc
            have c1 := hA3.load Row.cells_len hr1
            have c0 := hA3.load Row.cells_len hr0
            obtain ⟨H4, H5, s1, s0, hA5, hS5, hl5⟩ := hA3.swap Row.cells_len Row.cells_one hr1 hr0
            rw [← hx] at c1 s0
            rw [← hy] at c0 s1
            simp only [Row.cells, Nat.mul_one, Row.val] at c1 c0 s1 s0
            simp (maxSteps := 1000000) [go_sem, hc, hc0]
            refine AWp.draw mixed [(0, false), (1, false), (2, false), (3, false), (4, false), (5, false), (6, false), (7, false), (8, false), (9, false), (10, false), (11, false), (12, false), (13, false), (14, false), (15, false), (16, false), (17, false)] (by kernel_rfl) ?_
            simp (maxSteps := 1000000) [go_sem, c1, c0, n1, n0, m1, m0, z1, hwr, s1, s0]
            exact hK2 (r, swp d2 (r + 1) r) _ _ (by simp only; omega) (by simp [upF, Fr.get, Up.refl]) ⟨by simp only; omega, by simp only; omega, by rw [size_swp]; exact hsz2, hQ2.swp hr1 hr0, hS3.trans hS5, hA5, by simp only; rw [← hI]; simp⟩
        · have hja' : j = a := by omega
          subst hja'
          have e : insInner lt j j d2 = d2 := by
            cases j with
            | zero => rfl
            | succ r => rw [insInner]; simp
          refine AWp.draw mixed [(0, false), (1, false), (2, false), (3, false), (4, false), (5, false), (6, false), (7, false), (8, false), (9, false), (10, false), (11, false), (12, false), (13, false), (14, false), (15, false), (16, false)] (by kernel_rfl) ?_
          simp (maxSteps := 1000000) [go_sem, undef, hw_i]
          exact hK (i + 1, d2) _ _ (by simp only; omega) (by simp [upF, Fr.get, Up.refl]) ⟨by simp only; omega, by simp only; omega, hsz2, hQ2, hS2, hA2, by simp only; rw [← hO, ← hI, e]⟩
    · rw [if_neg hlt] at hO
      simp (maxSteps := 1000000) [go_sem, hlt]
      exact h H' hS (hO ▸ hA1)

end Go.Proofs.Ytakkmkinfeddeaa
end

section
/- Sorting by a function: the heap. -/
set_option linter.all false
set_option maxRecDepth 20000
set_option maxHeartbeats 4000000
namespace Go.Proofs.Ytakkmkinfeddeaa
open Go.Ab Go.Sort

theorem siftS_ok {H : Heap} {id lo hi first n : Nat} {d : Array Row} {lt : Row → Row → Bool} {g : FuncId} {fs cs : List Value} {Q : Row → Prop} (hA : Arr Row.cells H id d) (hn : d.size = n) (hl : n ≤ 1048576) (hlo : lo ≤ n) (hhi : first + hi ≤ n) (hQ : QA Q d)
    (hC : Cmp Try.prog Row.val lt g fs cs Q id H) (Post : Value → Heap → Prop) (h : ∀ H', Same (fun k => k = id) H H' → Arr Row.cells H' id (siftDown lt hi first lo d) → Post (.tuple #[]) H') :
    ACalls Try.prog 267 [lv 1 id 0 n, .int .i64 lo, .int .i64 hi, .int .i64 first, .func (.func g) fs.toArray cs.toArray] H Post := by
  refine acalls_vc (rs := []) Try.func267 rfl rfl Try.ntmps267 rfl rfl ?_
  simp (maxSteps := 1000000) [go_sem]
  refine AWp.loopVc (St := Nat × Array Row) (fun s => [(0, lv 1 id 0 n), (2, .int .i64 hi), (3, .int .i64 first), (4, .func (.func g) fs.toArray cs.toArray), (10, .int .i64 s.1)])
    (fun s H' => s.1 ≤ n ∧ s.2.size = n ∧ QA Q s.2 ∧ Same (fun k => k = id) H H' ∧ Arr Row.cells H' id s.2 ∧ siftDown lt hi first s.1 s.2 = siftDown lt hi first lo d) (fun s => n - s.1) (lo, d) ?_ ?_ ?_
  · simp [upF, Fr.get, Up.refl]
  · exact ⟨hlo, hn, hQ, Same.refl _ _, hA, rfl⟩
  · rintro K ⟨root, d1⟩ H1 ⟨hr, hsz, hQ1, hS1, hA1, hO⟩ hK
    simp only at hr hsz hQ1 hS1 hA1 hO
    obtain ⟨ch, hch⟩ : ∃ ch, ch = 2 * root + 1 := ⟨_, rfl⟩
    obtain ⟨c2, hc2⟩ : ∃ c2, c2 = ch + 1 := ⟨_, rfl⟩
    obtain ⟨fr, hfr⟩ : ∃ fr, fr = first + root := ⟨_, rfl⟩
    obtain ⟨fc, hfc⟩ : ∃ fc, fc = first + ch := ⟨_, rfl⟩
    obtain ⟨fc2, hfc2⟩ : ∃ fc2, fc2 = first + c2 := ⟨_, rfl⟩
    have w1 : IntKind.i64.wrap (2 * (root : Int)) = 2 * (root : Int) := i64w (by omega) (by omega)
    have w2 : IntKind.i64.wrap (2 * (root : Int) + 1) = (ch : Int) := by rw [hch]; rw [i64w (by omega) (by omega)]; omega
    have w3 : IntKind.i64.wrap ((ch : Int) + 1) = (c2 : Int) := by rw [hc2]; rw [i64w (by omega) (by omega)]; omega
    by_cases hh : hi ≤ ch
    · rw [sift_end hch hh] at hO
      have hh' : (hi : Int) ≤ ch := by omega
      simp (maxSteps := 1000000) [go_sem, w1, w2, hh, hh']
      exact h H1 hS1 (hO ▸ hA1)
    · rw [sift_step hch hc2 hfr hfc hfc2 hh] at hO
      have hh' : ¬ ((hi : Int) ≤ ch) := by omega
      have hh2 : ch < hi := by omega
      have w4 : IntKind.i64.wrap ((first : Int) + root) = (fr : Int) := by rw [hfr]; rw [i64w (by omega) (by omega)]; omega
      have w5 : IntKind.i64.wrap ((first : Int) + ch) = (fc : Int) := by rw [hfc]; rw [i64w (by omega) (by omega)]; omega
      have w6 : IntKind.i64.wrap ((first : Int) + c2) = (fc2 : Int) := by rw [hfc2]; rw [i64w (by omega) (by omega)]; omega
      have w7 : IntKind.i64.wrap ((fc : Int) + 1) = (fc2 : Int) := by rw [hfc2, hfc, hc2]; rw [i64w (by omega) (by omega)]; omega
      have hfr1 : fr < d1.size := by omega
      have hfc1 : fc < d1.size := by omega
      have n1 : fr < n := by omega
      have n2 : fc < n := by omega
      obtain ⟨x, hx⟩ : ∃ x, x = d1[fr]! := ⟨_, rfl⟩
      obtain ⟨y, hy⟩ : ∃ y, y = d1[fc]! := ⟨_, rfl⟩
      obtain ⟨z, hz⟩ : ∃ z, z = d1[fc2]! := ⟨_, rfl⟩
      rw [← hx, ← hy, ← hz] at hO
      have qx := hQ1 _ hfr1
      have qy := hQ1 _ hfc1
      rw [← hx] at qx
      rw [← hy] at qy
      have cy := hA1.load Row.cells_len hfc1
      rw [← hy] at cy
      simp only [Row.cells, Nat.mul_one, Row.val] at cy
      by_cases h2 : c2 < hi
      · have h2' : (c2 : Int) < hi := by omega
        have hfc21 : fc2 < d1.size := by omega
        have n3 : fc2 < n := by omega
        have qz := hQ1 _ hfc21
        rw [← hz] at qz
        have cz := hA1.load Row.cells_len hfc21
        rw [← hz] at cz
        simp only [Row.cells, Nat.mul_one, Row.val] at cz
        have e2 : decide (c2 < hi) = true := decide_eq_true h2
        rw [e2, Bool.true_and] at hO
        simp (maxSteps := 1000000) [go_sem, w1, w2, w3, hh, hh', hh2]
        refine AWp.draw mixed [(0, false), (1, false), (2, false), (3, false), (4, false), (5, false), (6, false), (7, false), (8, false), (9, false), (10, false), (11, false), (12, false), (13, false), (14, false), (15, false), (16, false), (17, false), (18, false), (19, false), (20, false), (21, false)] (by kernel_rfl) ?_
        simp (maxSteps := 1000000) [go_sem, w3, w5, w7, h2, h2', cy, cz, n2, n3]
        refine hC H1 y z _ hS1 qy qz ?_
        intro H3 c hp3 hc
        have hS3 := hS1.via (Same.of_prefix (S := fun _ => False) hp3) (fun _ _ h => h.elim)
        have hA3 := hA1.pre hp3
        have cx := hA3.load Row.cells_len hfr1
        rw [← hx] at cx
        simp only [Row.cells, Nat.mul_one, Row.val] at cx
        cases hyz : lt y z with
        | true =>
          rw [hyz] at hc hO
          have hc0 : c < 0 := by simpa using hc
          have cz := hA3.load Row.cells_len hfc21
          rw [← hz] at cz
          simp only [Row.cells, Nat.mul_one, Row.val] at cz
          simp (maxSteps := 1000000) [go_sem, hc, hc0, w3]
          refine AWp.draw mixed [(0, false), (1, false), (2, false), (3, false), (4, false), (5, false), (6, false), (7, false), (8, false), (9, false), (10, false), (11, false), (12, false), (13, false), (14, false), (15, false)] (by kernel_rfl) ?_
          simp (maxSteps := 1000000) [go_sem, w4, w6, cx, cz, n1, n3]
          refine hC H3 x z _ hS3 qx qz ?_
          intro H4 e hp4 he
          have hS4 := hS3.via (Same.of_prefix (S := fun _ => False) hp4) (fun _ _ h => h.elim)
          have hA4 := hA3.pre hp4
          cases hxz : lt x z with
          | false =>
            rw [hxz] at he hO
            have he0 : ¬ e < 0 := by simpa using he
            simp (maxSteps := 1000000) [go_sem, he, he0]
            exact h H4 hS4 (by simpa [← hO] using hA4)
          | true =>
            rw [hxz] at he hO
            have he0 : e < 0 := by simpa using he
            have ca := hA4.load Row.cells_len hfr1
            have cb := hA4.load Row.cells_len hfc21
            obtain ⟨H5, H6, s1, s0, hA6, hS6, hl6⟩ := hA4.swap Row.cells_len Row.cells_one hfr1 hfc21
            rw [← hx] at ca s0
            rw [← hz] at cb s1
            simp only [Row.cells, Nat.mul_one, Row.val] at ca cb s0 s1
            simp (maxSteps := 1000000) [go_sem, he, he0]
            refine AWp.draw mixed [(0, false), (1, false), (2, false), (3, false), (4, false), (5, false), (6, false), (7, false), (8, false), (9, false), (10, false), (11, false), (12, false), (13, false), (14, false), (15, false), (16, false), (17, false), (18, false), (19, false), (20, false), (21, false), (22, false), (23, false)] (by kernel_rfl) ?_
            simp (maxSteps := 1000000) [go_sem, w4, w6, ca, cb, n1, n3, s1, s0]
            exact hK (c2, swp d1 fr fc2) _ _ (by simp only; omega) (by simp [upF, Fr.get, Up.refl]) ⟨by simp only; omega, by rw [size_swp]; exact hsz, hQ1.swp hfr1 hfc21, hS4.trans hS6, hA6, by simp only; rw [← hO]; simp⟩
        | false =>
          rw [hyz] at hc hO
          have hc0 : ¬ c < 0 := by simpa using hc
          have cy := hA3.load Row.cells_len hfc1
          rw [← hy] at cy
          simp only [Row.cells, Nat.mul_one, Row.val] at cy
          simp (maxSteps := 1000000) [go_sem, hc, hc0]
          refine AWp.draw mixed [(0, false), (1, false), (2, false), (3, false), (4, false), (5, false), (6, false), (7, false), (8, false), (9, false), (10, false), (11, false), (12, false), (13, false), (14, false), (15, false)] (by kernel_rfl) ?_
          simp (maxSteps := 1000000) [go_sem, w4, w5, cx, cy, n1, n2]
          refine hC H3 x y _ hS3 qx qy ?_
          intro H4 e hp4 he
          have hS4 := hS3.via (Same.of_prefix (S := fun _ => False) hp4) (fun _ _ h => h.elim)
          have hA4 := hA3.pre hp4
          cases hxz : lt x y with
          | false =>
            rw [hxz] at he hO
            have he0 : ¬ e < 0 := by simpa using he
            simp (maxSteps := 1000000) [go_sem, he, he0]
            exact h H4 hS4 (by simpa [← hO] using hA4)
          | true =>
            rw [hxz] at he hO
            have he0 : e < 0 := by simpa using he
            have ca := hA4.load Row.cells_len hfr1
            have cb := hA4.load Row.cells_len hfc1
            obtain ⟨H5, H6, s1, s0, hA6, hS6, hl6⟩ := hA4.swap Row.cells_len Row.cells_one hfr1 hfc1
            rw [← hx] at ca s0
            rw [← hy] at cb s1
            simp only [Row.cells, Nat.mul_one, Row.val] at ca cb s0 s1
            simp (maxSteps := 1000000) [go_sem, he, he0]
            refine AWp.draw mixed [(0, false), (1, false), (2, false), (3, false), (4, false), (5, false), (6, false), (7, false), (8, false), (9, false), (10, false), (11, false), (12, false), (13, false), (14, false), (15, false), (16, false), (17, false), (18, false), (19, false), (20, false), (21, false), (22, false), (23, false)] (by kernel_rfl) ?_
            simp (maxSteps := 1000000) [go_sem, w4, w5, ca, cb, n1, n2, s1, s0]
            exact hK (ch, swp d1 fr fc) _ _ (by simp only; omega) (by simp [upF, Fr.get, Up.refl]) ⟨by simp only; omega, by rw [size_swp]; exact hsz, hQ1.swp hfr1 hfc1, hS4.trans hS6, hA6, by simp only; rw [← hO]; simp⟩
      · have h2' : ¬ ((c2 : Int) < hi) := by omega
        have e2 : decide (c2 < hi) = false := decide_eq_false h2
        rw [e2, Bool.false_and] at hO
        have hA3 := hA1
        have hS3 := hS1
        have cx := hA3.load Row.cells_len hfr1
        rw [← hx] at cx
        simp only [Row.cells, Nat.mul_one, Row.val] at cx
        simp (maxSteps := 1000000) [go_sem, w1, w2, w3, hh, hh', hh2]
        refine AWp.draw mixed [(0, false), (1, false), (2, false), (3, false), (4, false), (5, false), (6, false), (7, false), (8, false), (9, false), (10, false), (11, false), (12, false), (13, false), (14, false), (15, false), (16, false), (17, false), (18, false), (19, false), (20, false), (21, false)] (by kernel_rfl) ?_
        simp (maxSteps := 1000000) [go_sem, undef, w3, h2, h2']
        obtain ⟨H3, eH3⟩ : ∃ H3, H3 = H1 := ⟨_, rfl⟩
        rw [← eH3] at hA3 hS3 cx cy ⊢
        refine AWp.draw mixed [(0, false), (1, false), (2, false), (3, false), (4, false), (5, false), (6, false), (7, false), (8, false), (9, false), (10, false), (11, false), (12, false), (13, false), (14, false), (15, false)] (by kernel_rfl) ?_
        simp (maxSteps := 1000000) [go_sem, w4, w5, cx, cy, n1, n2]
        refine hC H3 x y _ hS3 qx qy ?_
        intro H4 e hp4 he
        have hS4 := hS3.via (Same.of_prefix (S := fun _ => False) hp4) (fun _ _ h => h.elim)
        have hA4 := hA3.pre hp4
        cases hxz : lt x y with
        | false =>
          rw [hxz] at he hO
          have he0 : ¬ e < 0 := by simpa using he
          simp (maxSteps := 1000000) [go_sem, he, he0]
          exact h H4 hS4 (by simpa [← hO] using hA4)
        | true =>
          rw [hxz] at he hO
          have he0 : e < 0 := by simpa using he
          have ca := hA4.load Row.cells_len hfr1
          have cb := hA4.load Row.cells_len hfc1
          obtain ⟨H5, H6, s1, s0, hA6, hS6, hl6⟩ := hA4.swap Row.cells_len Row.cells_one hfr1 hfc1
          rw [← hx] at ca s0
          rw [← hy] at cb s1
          simp only [Row.cells, Nat.mul_one, Row.val] at ca cb s0 s1
          simp (maxSteps := 1000000) [go_sem, he, he0]
          refine AWp.draw mixed [(0, false), (1, false), (2, false), (3, false), (4, false), (5, false), (6, false), (7, false), (8, false), (9, false), (10, false), (11, false), (12, false), (13, false), (14, false), (15, false), (16, false), (17, false), (18, false), (19, false), (20, false), (21, false), (22, false), (23, false)] (by kernel_rfl) ?_
          simp (maxSteps := 1000000) [go_sem, w4, w5, ca, cb, n1, n2, s1, s0]
          exact hK (ch, swp d1 fr fc) _ _ (by simp only; omega) (by simp [upF, Fr.get, Up.refl]) ⟨by simp only; omega, by rw [size_swp]; exact hsz, hQ1.swp hfr1 hfc1, hS4.trans hS6, hA6, by simp only; rw [← hO]; simp⟩

theorem heapS_ok {H : Heap} {id a b n : Nat} {d : Array Row} {lt : Row → Row → Bool} {g : FuncId} {fs cs : List Value} {Q : Row → Prop} (hA : Arr Row.cells H id d) (hn : d.size = n) (hl : n ≤ 1048576) (hab : a < b) (hb : b ≤ n) (hQ : QA Q d)
    (hC : Cmp Try.prog Row.val lt g fs cs Q id H) (Post : Value → Heap → Prop) (h : ∀ H', Same (fun k => k = id) H H' → Arr Row.cells H' id (heapSort lt d a b) → Post (.tuple #[]) H') :
    ACalls Try.prog 230 [lv 1 id 0 n, .int .i64 a, .int .i64 b, .func (.func g) fs.toArray cs.toArray] H Post := by
  refine acalls_vc (rs := []) Try.func230 rfl rfl Try.ntmps230 rfl rfl ?_
  obtain ⟨hi, hhi⟩ : ∃ hi, hi = b - a := ⟨_, rfl⟩
  obtain ⟨h1, hh1⟩ : ∃ h1, h1 = hi - 1 := ⟨_, rfl⟩
  obtain ⟨k0, hk0⟩ : ∃ k0, k0 = h1 / 2 := ⟨_, rfl⟩
  have w0 : IntKind.i64.wrap ((b : Int) - a) = (hi : Int) := by rw [hhi, i64w (by omega) (by omega)]; omega
  have w1 : IntKind.i64.wrap ((hi : Int) - 1) = (h1 : Int) := by rw [hh1, i64w (by omega) (by omega)]; omega
  have w2 : IntKind.i64.wrap ((h1 : Int) / 2) = (k0 : Int) := by rw [hk0, i64w (by omega) (by omega)]; omega
  have e0 : heapSort lt d a b = heapPop lt a hi (heapBuild lt hi a (k0 + 1) d) := by rw [hk0, hh1, hhi]; rfl
  rw [e0] at h
  simp (maxSteps := 1000000) [go_sem, w0, w1, w2]
  refine AWp.loopVc (St := Nat × Array Row) (fun s => [(0, lv 1 id 0 n), (3, .func (.func g) fs.toArray cs.toArray), (8, .int .i64 a), (9, .int .i64 0), (10, .int .i64 hi), (11, .int .i64 ((s.1 : Int) - 1))])
    (fun s H' => s.1 ≤ k0 + 1 ∧ s.2.size = n ∧ QA Q s.2 ∧ Same (fun k => k = id) H H' ∧ Arr Row.cells H' id s.2 ∧ heapBuild lt hi a s.1 s.2 = heapBuild lt hi a (k0 + 1) d) (fun s => s.1) (k0 + 1, d) ?_ ?_ ?_
  · have e : ((k0 + 1 : Nat) : Int) - 1 = k0 := by omega
    simp [upF, Fr.get, Up.refl, e]
  · exact ⟨Nat.le_refl _, hn, hQ, Same.refl _ _, hA, rfl⟩
  · rintro K ⟨k, d1⟩ H1 ⟨hk, hsz, hQ1, hS1, hA1, hO⟩ hK
    simp only at hk hsz hQ1 hS1 hA1 hO
    cases k with
    | succ r =>
      have hwr : IntKind.i64.wrap ((r : Int) - 1) = (r : Int) - 1 := i64w (by omega) (by omega)
      simp (maxSteps := 1000000) [go_sem]
      refine siftS_ok hA1 hsz hl (by omega) (by omega) hQ1 (hC.keep hS1) _ ?_
      intro H2 hS2 hA2
      have hsz2 : (siftDown lt hi a r d1).size = n := by rw [sift_size]; exact hsz
      simp (maxSteps := 1000000) [go_sem, hwr]
      exact hK (r, siftDown lt hi a r d1) _ _ (by simp only; omega) (by simp [upF, Fr.get, Up.refl]) ⟨by simp only; omega, hsz2, sift_QA (by omega) hQ1, hS1.trans hS2, hA2, hO⟩
    | zero =>
      simp (maxSteps := 1000000) [go_sem, w1]
      have hO' : d1 = heapBuild lt hi a (k0 + 1) d := hO
      rw [← hO'] at h
      refine AWp.loopVc (St := Nat × Array Row) (fun s => [(0, lv 1 id 0 n), (3, .func (.func g) fs.toArray cs.toArray), (8, .int .i64 a), (9, .int .i64 0), (12, .int .i64 ((s.1 : Int) - 1))])
        (fun s H' => s.1 ≤ hi ∧ s.2.size = n ∧ QA Q s.2 ∧ Same (fun k => k = id) H H' ∧ Arr Row.cells H' id s.2 ∧ heapPop lt a s.1 s.2 = heapPop lt a hi d1) (fun s => s.1) (hi, d1) ?_ ?_ ?_
      · have e : (hi : Int) - 1 = h1 := by omega
        simp [upF, Fr.get, Up.refl, e]
      · exact ⟨Nat.le_refl _, hsz, hQ1, hS1, hA1, rfl⟩
      · rintro K2 ⟨k, d2⟩ H2 ⟨hk2, hsz2, hQ2, hS2, hA2, hP⟩ hK2
        simp only at hk2 hsz2 hQ2 hS2 hA2 hP
        cases k with
        | succ r =>
          have hwr : IntKind.i64.wrap ((r : Int) - 1) = (r : Int) - 1 := i64w (by omega) (by omega)
          obtain ⟨ar, har⟩ : ∃ ar, ar = a + r := ⟨_, rfl⟩
          have w4 : IntKind.i64.wrap ((a : Int) + r) = (ar : Int) := by rw [har]; rw [i64w (by omega) (by omega)]; omega
          have hi1 : a < d2.size := by omega
          have hi2 : ar < d2.size := by omega
          have n1 : a < n := by omega
          have n2 : ar < n := by omega
          have ca := hA2.load Row.cells_len hi1
          have cb := hA2.load Row.cells_len hi2
          obtain ⟨H5, H6, s1, s0, hA6, hS6, hl6⟩ := hA2.swap Row.cells_len Row.cells_one hi1 hi2
          obtain ⟨x, hx⟩ : ∃ x, x = d2[a]! := ⟨_, rfl⟩
          obtain ⟨y, hy⟩ : ∃ y, y = d2[ar]! := ⟨_, rfl⟩
          rw [← hx] at ca s0
          rw [← hy] at cb s1
          simp only [Row.cells, Nat.mul_one, Row.val] at ca cb s0 s1
          rw [heapPop, ← har] at hP
          have hsz3 : (swp d2 a ar).size = n := by rw [size_swp]; exact hsz2
          have hQ3 := hQ2.swp hi1 hi2
          simp (maxSteps := 1000000) [go_sem]
          refine AWp.draw mixed [(0, false), (1, false), (2, false), (3, false), (4, false), (5, false), (6, false), (7, false), (8, false), (9, false), (10, false), (11, false), (12, false), (13, false), (14, false), (15, false), (16, false), (17, false), (18, false), (19, false)] (by kernel_rfl) ?_
          simp (maxSteps := 1000000) [go_sem, w4, ca, cb, n1, n2, s1, s0]
          refine siftS_ok (lo := 0) hA6 hsz3 hl (by omega) (by omega) hQ3 (hC.keep (hS2.trans hS6)) _ ?_
          intro H7 hS7 hA7
          have hsz4 : (siftDown lt r a 0 (swp d2 a ar)).size = n := by rw [sift_size]; exact hsz3
          simp (maxSteps := 1000000) [go_sem, hwr]
          exact hK2 (r, siftDown lt r a 0 (swp d2 a ar)) _ _ (by simp only; omega) (by simp [upF, Fr.get, Up.refl]) ⟨by simp only; omega, hsz4, sift_QA (by omega) hQ3, (hS2.trans hS6).trans hS7, hA7, hP⟩
        | zero =>
          simp (maxSteps := 1000000) [go_sem]
          refine h H2 hS2 ?_
          rw [← hP]; exact hA2

end Go.Proofs.Ytakkmkinfeddeaa
end

section
/- Sorting by a function: turning around, the choice of a pivot. -/
set_option linter.all false
set_option maxRecDepth 20000
set_option maxHeartbeats 4000000
namespace Go.Proofs.Ytakkmkinfeddeaa
open Go.Ab Go.Sort

theorem reverseS_ok {H : Heap} {id a b n : Nat} {d : Array Row} {g : FuncId} {fs cs : List Value} (hA : Arr Row.cells H id d) (hn : d.size = n) (hl : n ≤ 1048576) (hab : a < b) (hb : b ≤ n)
    (Post : Value → Heap → Prop) (h : ∀ H', Same (fun k => k = id) H H' → Arr Row.cells H' id (reverseRange d a b) → Post (.tuple #[]) H') :
    ACalls Try.prog 233 [lv 1 id 0 n, .int .i64 a, .int .i64 b, .func (.func g) fs.toArray cs.toArray] H Post := by
  refine acalls_vc (rs := []) Try.func233 rfl rfl Try.ntmps233 rfl rfl ?_
  obtain ⟨b1, hb1⟩ : ∃ b1, b1 = b - 1 := ⟨_, rfl⟩
  have w0 : IntKind.i64.wrap ((b : Int) - 1) = (b1 : Int) := by rw [hb1, i64w (by omega) (by omega)]; omega
  have e0 : reverseRange d a b = reverseLoop a b1 d := by rw [hb1]; rfl
  rw [e0] at h
  simp (maxSteps := 1000000) [go_sem, w0]
  refine AWp.loopVc (St := Nat × Nat × Array Row) (fun s => [(0, lv 1 id 0 n), (8, .int .i64 s.1), (9, .int .i64 s.2.1)])
    (fun s H' => s.2.1 < n ∧ s.1 ≤ n ∧ s.2.2.size = n ∧ Same (fun k => k = id) H H' ∧ Arr Row.cells H' id s.2.2 ∧ reverseLoop s.1 s.2.1 s.2.2 = reverseLoop a b1 d) (fun s => s.2.1 - s.1) (a, b1, d) ?_ ?_ ?_
  · simp [upF, Fr.get, Up.refl]
  · exact ⟨by simp only; omega, by simp only; omega, hn, Same.refl _ _, hA, rfl⟩
  · rintro K ⟨i, j, d1⟩ H1 ⟨hj, hi, hsz, hS1, hA1, hO⟩ hK
    simp only at hj hi hsz hS1 hA1 hO
    by_cases hij : i < j
    · obtain ⟨r, rfl⟩ : ∃ r, j = r + 1 := ⟨j - 1, by omega⟩
      rw [reverse_go hij] at hO
      have hi1 : i < d1.size := by omega
      have hi2 : r + 1 < d1.size := by omega
      have n1 : i < n := by omega
      have n2 : r + 1 < n := by omega
      have m2 : (r : Int) + 1 < n := by omega
      have z2 : (0 : Int) ≤ (r : Int) + 1 := by omega
      have hij' : (i : Int) < (r : Int) + 1 := by omega
      have hwr : IntKind.i64.wrap (r : Int) = (r : Int) := i64w (by omega) (by omega)
      have hw_i : IntKind.i64.wrap ((i : Int) + 1) = (i : Int) + 1 := i64w (by omega) (by omega)
      have ca := hA1.load Row.cells_len hi1
      have cb := hA1.load Row.cells_len hi2
      obtain ⟨H5, H6, s1, s0, hA6, hS6, hl6⟩ := hA1.swap Row.cells_len Row.cells_one hi1 hi2
      obtain ⟨x, hx⟩ : ∃ x, x = d1[i]! := ⟨_, rfl⟩
      obtain ⟨y, hy⟩ : ∃ y, y = d1[r + 1]! := ⟨_, rfl⟩
      rw [← hx] at ca s0
      rw [← hy] at cb s1
      simp only [Row.cells, Nat.mul_one, Row.val] at ca cb s0 s1
      simp (maxSteps := 1000000) [go_sem, hij, hij']
      refine AWp.draw mixed [(0, false), (1, false), (2, false), (3, false), (4, false), (5, false), (6, false), (7, false), (8, false), (9, false), (10, false), (11, false), (12, false), (13, false), (14, false), (15, false)] (by kernel_rfl) ?_
      simp (maxSteps := 1000000) [go_sem, ca, cb, n1, n2, m2, z2, s1, s0, hw_i, hwr]
      exact hK (i + 1, r, swp d1 i (r + 1)) _ _ (by simp only; omega) (by simp [upF, Fr.get, Up.refl]) ⟨by simp only; omega, by simp only; omega, by rw [size_swp]; exact hsz, hS1.trans hS6, hA6, hO⟩
    · rw [reverse_stop hij] at hO
      have hij' : ¬ ((i : Int) < j) := by omega
      simp (maxSteps := 1000000) [go_sem, hij, hij']
      exact h H1 hS1 (hO ▸ hA1)

theorem order2S_ok {HB H : Heap} {id sw a b n : Nat} {z : Int} {d : Array Row} {lt : Row → Row → Bool} {g : FuncId} {fs cs : List Value} {Q : Row → Prop} (hA : Arr Row.cells H id d) (hn : d.size = n) (hl : n ≤ 1048576) (ha : a < n) (hb : b < n) (hQ : QA Q d)
    (hC : Cmp Try.prog Row.val lt g fs cs Q id HB) (hB : Same (fun k => k = id) HB H) (hz : H[sw]? = some ⟨[.int .i64 z], true, true⟩) (hsw : HB.length ≤ sw) (hid : id ≠ sw) (Post : Value → Heap → Prop)
    (h : ∀ H' (x y : Nat) (z' : Int), Same (fun k => k = sw) H H' → H'[sw]? = some ⟨[.int .i64 z'], true, true⟩ → (x = a ∧ y = b ∨ x = b ∧ y = a) → Post (.tuple #[.int .i64 x, .int .i64 y]) H') :
    ACalls Try.prog 280 [lv 1 id 0 n, .int .i64 a, .int .i64 b, .pointer (some ⟨sw, 0, none⟩), .func (.func g) fs.toArray cs.toArray] H Post := by
  refine acalls_vc (rs := [.tmp 10, .tmp 11]) Try.func280 rfl rfl Try.ntmps280 rfl rfl ?_
  have hi1 : a < d.size := by omega
  have hi2 : b < d.size := by omega
  have ca := hA.load Row.cells_len hi1
  have cb := hA.load Row.cells_len hi2
  have qa := hQ _ hi1
  have qb := hQ _ hi2
  obtain ⟨x, hx⟩ : ∃ x, x = d[a]! := ⟨_, rfl⟩
  obtain ⟨y, hy⟩ : ∃ y, y = d[b]! := ⟨_, rfl⟩
  rw [← hx] at ca qa
  rw [← hy] at cb qb
  simp only [Row.cells, Nat.mul_one, Row.val] at ca cb
  simp (maxSteps := 1000000) [go_sem]
  refine AWp.draw mixed [(0, false), (1, false), (2, false), (3, false), (4, false), (5, false), (6, false), (7, false), (8, false), (9, false), (10, false)] (by kernel_rfl) ?_
  simp (maxSteps := 1000000) [go_sem, ca, cb, ha, hb]
  refine hC H y x _ hB qb qa ?_
  intro H3 c hp3 hc
  have hz3 : H3[sw]? = some ⟨[.int .i64 z], true, true⟩ := Same.get (S := fun _ => False) (Same.of_prefix hp3) hz (fun h => h)
  cases hyx : lt y x with
  | true =>
    rw [hyx] at hc
    have hc0 : c < 0 := by simpa using hc
    have lz : cellsAt H3 sw 0 1 = some [.int .i64 z] := by rw [cellsAt_of hz3 rfl (by simp)]; rfl
    obtain ⟨z1, hz1⟩ : ∃ z1, IntKind.i64.wrap (z + 1) = z1 := ⟨_, rfl⟩
    have sz : storeAt H3 sw 0 [.int .i64 z1] = some (H3.set sw ⟨[.int .i64 z1], true, true⟩) := by
      rw [storeAt_of hz3 rfl rfl (by simp) (by simp [Value.oneCell'])]; rfl
    have hlt := (List.getElem?_eq_some_iff.1 hz3).1
    have fin := h (H3.set sw ⟨[.int .i64 z1], true, true⟩) b a _ ((Same.of_prefix hp3).trans same_set) (List.getElem?_set_self hlt) (.inr ⟨rfl, rfl⟩)
    generalize H3.set sw ⟨[.int .i64 z1], true, true⟩ = H4 at sz fin
    simp (maxSteps := 1000000) [go_sem, hc, hc0, lz, hz1, sz]
    exact fin
  | false =>
    rw [hyx] at hc
    have hc0 : ¬ c < 0 := by simpa using hc
    have fin := h H3 a b z (Same.of_prefix hp3) hz3 (.inl ⟨rfl, rfl⟩)
    simp (maxSteps := 1000000) [go_sem, hc, hc0]
    exact fin

theorem medianS_ok {HB H : Heap} {id sw a b c n : Nat} {z : Int} {d : Array Row} {lt : Row → Row → Bool} {g : FuncId} {fs cs : List Value} {Q : Row → Prop} (hA : Arr Row.cells H id d) (hn : d.size = n) (hl : n ≤ 1048576) (ha : a < n) (hb : b < n) (hc : c < n) (hQ : QA Q d)
    (hC : Cmp Try.prog Row.val lt g fs cs Q id HB) (hB : Same (fun k => k = id) HB H) (hz : H[sw]? = some ⟨[.int .i64 z], true, true⟩) (hsw : HB.length ≤ sw) (hid : id ≠ sw) (Post : Value → Heap → Prop)
    (h : ∀ H' (x : Nat) (z' : Int), Same (fun k => k = sw) H H' → H'[sw]? = some ⟨[.int .i64 z'], true, true⟩ → (x = a ∨ x = b ∨ x = c) → Post (.int .i64 x) H') :
    ACalls Try.prog 269 [lv 1 id 0 n, .int .i64 a, .int .i64 b, .int .i64 c, .pointer (some ⟨sw, 0, none⟩), .func (.func g) fs.toArray cs.toArray] H Post := by
  have stepB : ∀ {H1 : Heap}, Same (fun k => k = sw) H H1 → Same (fun k => k = id) HB H1 := fun h1 => hB.via h1 (by intro j hj e; omega)
  have stepA : ∀ {H1 : Heap}, Same (fun k => k = sw) H H1 → Arr Row.cells H1 id d := fun h1 => h1.get hA hid
  refine acalls_vc (rs := [.tmp 12]) Try.func269 rfl rfl Try.ntmps269 rfl rfl ?_
  simp (maxSteps := 1000000) [go_sem]
  refine order2S_ok hA hn hl ha hb hQ hC hB hz hsw hid _ ?_
  intro H1 a1 b1 z1 hs1 hz1 h1
  simp (maxSteps := 1000000) [go_sem]
  refine order2S_ok (stepA hs1) hn hl (by omega) hc hQ hC (stepB hs1) hz1 hsw hid _ ?_
  intro H2 b2 c2 z2 hs2 hz2 h2
  have hs2 := hs1.trans hs2
  simp (maxSteps := 1000000) [go_sem]
  refine order2S_ok (stepA hs2) hn hl (by omega) (by omega) hQ hC (stepB hs2) hz2 hsw hid _ ?_
  intro H3 a3 b3 z3 hs3 hz3 h3
  simp (maxSteps := 1000000) [go_sem]
  exact h H3 b3 z3 (hs2.trans hs3) hz3 (by omega)

theorem medianAdjS_ok {HB H : Heap} {id sw a n : Nat} {z : Int} {d : Array Row} {lt : Row → Row → Bool} {g : FuncId} {fs cs : List Value} {Q : Row → Prop} (hA : Arr Row.cells H id d) (hn : d.size = n) (hl : n ≤ 1048576) (ha0 : 0 < a) (ha : a + 1 < n) (hQ : QA Q d)
    (hC : Cmp Try.prog Row.val lt g fs cs Q id HB) (hB : Same (fun k => k = id) HB H) (hz : H[sw]? = some ⟨[.int .i64 z], true, true⟩) (hsw : HB.length ≤ sw) (hid : id ≠ sw) (Post : Value → Heap → Prop)
    (h : ∀ H' (x : Nat) (z' : Int), Same (fun k => k = sw) H H' → H'[sw]? = some ⟨[.int .i64 z'], true, true⟩ → (a ≤ x + 1 ∧ x ≤ a + 1) → Post (.int .i64 x) H') :
    ACalls Try.prog 268 [lv 1 id 0 n, .int .i64 a, .pointer (some ⟨sw, 0, none⟩), .func (.func g) fs.toArray cs.toArray] H Post := by
  obtain ⟨p, hp⟩ : ∃ p, p = a - 1 := ⟨_, rfl⟩
  obtain ⟨q, hq⟩ : ∃ q, q = a + 1 := ⟨_, rfl⟩
  have w0 : IntKind.i64.wrap ((a : Int) - 1) = (p : Int) := by rw [hp, i64w (by omega) (by omega)]; omega
  have w1 : IntKind.i64.wrap ((a : Int) + 1) = (q : Int) := by rw [hq, i64w (by omega) (by omega)]; omega
  refine acalls_vc (rs := [.tmp 8]) Try.func268 rfl rfl Try.ntmps268 rfl rfl ?_
  simp (maxSteps := 1000000) [go_sem, w0, w1]
  refine medianS_ok hA hn hl (by omega) (by omega) (by omega) hQ hC hB hz hsw hid _ ?_
  intro H1 x z1 hs1 hz1 h1
  simp (maxSteps := 1000000) [go_sem]
  exact h H1 x z1 hs1 hz1 (by omega)

theorem pivotS_ok {H : Heap} {id a b n : Nat} {d : Array Row} {lt : Row → Row → Bool} {g : FuncId} {fs cs : List Value} {Q : Row → Prop} (hA : Arr Row.cells H id d) (hn : d.size = n) (hl : n ≤ 1048576) (hab : a < b) (hb : b ≤ n) (hQ : QA Q d)
    (hC : Cmp Try.prog Row.val lt g fs cs Q id H) (Post : Value → Heap → Prop)
    (h : ∀ H' (x : Nat) (t : Int), H <+: H' → (a ≤ x ∧ x < b) → Post (.tuple #[.int .i64 x, .int .i64 t]) H') :
    ACalls Try.prog 232 [lv 1 id 0 n, .int .i64 a, .int .i64 b, .func (.func g) fs.toArray cs.toArray] H Post := by
  obtain ⟨l, hll⟩ : ∃ l, l = b - a := ⟨_, rfl⟩
  obtain ⟨q, hq⟩ : ∃ q, q = l / 4 := ⟨_, rfl⟩
  obtain ⟨i, hi⟩ : ∃ i, i = a + q := ⟨_, rfl⟩
  obtain ⟨j, hj⟩ : ∃ j, j = a + q * 2 := ⟨_, rfl⟩
  obtain ⟨k, hk⟩ : ∃ k, k = a + q * 3 := ⟨_, rfl⟩
  have w0 : IntKind.i64.wrap ((b : Int) - a) = (l : Int) := by rw [hll, i64w (by omega) (by omega)]; omega
  have w1 : IntKind.i64.wrap ((l : Int) / 4) = (q : Int) := by rw [hq, i64w (by omega) (by omega)]; omega
  have w1' : IntKind.i64.wrap (q : Int) = (q : Int) := i64w (by omega) (by omega)
  have w2 : IntKind.i64.wrap ((q : Int) * 2) = (q : Int) * 2 := i64w (by omega) (by omega)
  have w3 : IntKind.i64.wrap ((q : Int) * 3) = (q : Int) * 3 := i64w (by omega) (by omega)
  have w4 : IntKind.i64.wrap ((a : Int) + q) = (i : Int) := by rw [hi, i64w (by omega) (by omega)]; omega
  have w5 : IntKind.i64.wrap ((a : Int) + (q : Int) * 2) = (j : Int) := by rw [hj, i64w (by omega) (by omega)]; omega
  have w6 : IntKind.i64.wrap ((a : Int) + (q : Int) * 3) = (k : Int) := by rw [hk, i64w (by omega) (by omega)]; omega
  have hidl := hA.lt
  have hp0 : H <+: H ++ [⟨[.int .i64 0], true, true⟩] := List.prefix_append _ _
  have hz0 : (H ++ [(⟨[.int .i64 0], true, true⟩ : Blk)])[H.length]? = some ⟨[.int .i64 0], true, true⟩ := by simp
  have fin0 : ∀ (H' : Heap) (x : Nat) (t : Int), Same (fun k => k = H.length) (H ++ [⟨[.int .i64 0], true, true⟩]) H' → (a ≤ x ∧ x < b) → Post (.tuple #[.int .i64 x, .int .i64 t]) H' := by
    intro H' x t hs hx
    refine h H' x t ?_ hx
    exact ((Same.of_prefix (S := fun k => k = H.length) hp0).trans hs).prefix (by intro j hj e; omega)
  have lz : ∀ {H' : Heap} {z : Int}, H'[H.length]? = some ⟨[.int .i64 z], true, true⟩ → cellsAt H' H.length 0 1 = some [.int .i64 z] := by
    intro H' z hz; rw [cellsAt_of hz rfl (by simp)]; rfl
  refine acalls_vc (rs := [.tmp 8, .tmp 9]) Try.func232 rfl rfl Try.ntmps232 rfl rfl ?_
  by_cases h8 : 8 ≤ l
  · have h8' : (8 : Int) ≤ l := by omega
    by_cases h50 : 50 ≤ l
    · have h50' : (50 : Int) ≤ l := by omega
      simp (maxSteps := 1000000) [go_sem, w0, w1, w1', w2, w3, w4, w5, w6, h8, h8', h50, h50']
      have hA0 := hA.pre hp0
      have hB0 : Same (fun k => k = id) H (H ++ [⟨[.int .i64 0], true, true⟩]) := Same.of_prefix hp0
      generalize H ++ [(⟨[.int .i64 0], true, true⟩ : Blk)] = H0 at hp0 hz0 fin0 hA0 hB0 ⊢
      have stepB : ∀ {H1 : Heap}, Same (fun k => k = H.length) H0 H1 → Same (fun k => k = id) H H1 := fun h1 => hB0.via h1 (by intro j hj e; omega)
      have stepA : ∀ {H1 : Heap}, Same (fun k => k = H.length) H0 H1 → Arr Row.cells H1 id d := fun h1 => h1.get hA0 (by omega)
      refine medianAdjS_ok hA0 hn hl (by omega) (by omega) hQ hC hB0 hz0 (Nat.le_refl _) (by omega) _ ?_
      intro H1 i1 z1 hs1 hz1 h1
      simp (maxSteps := 1000000) [go_sem]
      refine medianAdjS_ok (stepA hs1) hn hl (by omega) (by omega) hQ hC (stepB hs1) hz1 (Nat.le_refl _) (by omega) _ ?_
      intro H2 j1 z2 hs2 hz2 h2
      have hs2 := hs1.trans hs2
      simp (maxSteps := 1000000) [go_sem]
      refine medianAdjS_ok (stepA hs2) hn hl (by omega) (by omega) hQ hC (stepB hs2) hz2 (Nat.le_refl _) (by omega) _ ?_
      intro H3 k1 z3 hs3 hz3 h3
      have hs3 := hs2.trans hs3
      simp (maxSteps := 1000000) [go_sem]
      refine medianS_ok (stepA hs3) hn hl (by omega) (by omega) (by omega) hQ hC (stepB hs3) hz3 (Nat.le_refl _) (by omega) _ ?_
      intro H4 x z4 hs4 hz4 h4
      have hs4 := hs3.trans hs4
      have c4 := lz hz4
      have hx : a ≤ x ∧ x < b := by omega
      by_cases e0 : z4 = 0
      · have fin := fin0 H4 x 1 hs4 hx
        subst e0
        simp (maxSteps := 1000000) [go_sem, c4]
        exact fin
      · have e0' : (z4 == 0) = false := by simpa using e0
        by_cases e1 : z4 = 12
        · have fin := fin0 H4 x 2 hs4 hx
          subst e1
          simp (maxSteps := 1000000) [go_sem, c4]
          exact fin
        · have fin := fin0 H4 x 0 hs4 hx
          have e1' : (z4 == 12) = false := by simpa using e1
          simp (maxSteps := 1000000) [go_sem, c4, e0, e0', e1, e1']
          exact fin
    · have h50' : ¬ ((50 : Int) ≤ l) := by omega
      simp (maxSteps := 1000000) [go_sem, w0, w1, w1', w2, w3, w4, w5, w6, h8, h8', h50, h50']
      have hA0 := hA.pre hp0
      have hB0 : Same (fun k => k = id) H (H ++ [⟨[.int .i64 0], true, true⟩]) := Same.of_prefix hp0
      generalize H ++ [(⟨[.int .i64 0], true, true⟩ : Blk)] = H0 at hp0 hz0 fin0 hA0 hB0 ⊢
      refine medianS_ok hA0 hn hl (by omega) (by omega) (by omega) hQ hC hB0 hz0 (Nat.le_refl _) (by omega) _ ?_
      intro H4 x z4 hs4 hz4 h4
      have c4 := lz hz4
      have hx : a ≤ x ∧ x < b := by omega
      by_cases e0 : z4 = 0
      · have fin := fin0 H4 x 1 hs4 hx
        subst e0
        simp (maxSteps := 1000000) [go_sem, c4]
        exact fin
      · have e0' : (z4 == 0) = false := by simpa using e0
        by_cases e1 : z4 = 12
        · have fin := fin0 H4 x 2 hs4 hx
          subst e1
          simp (maxSteps := 1000000) [go_sem, c4]
          exact fin
        · have fin := fin0 H4 x 0 hs4 hx
          have e1' : (z4 == 12) = false := by simpa using e1
          simp (maxSteps := 1000000) [go_sem, c4, e0, e0', e1, e1']
          exact fin
  · have h8' : ¬ ((8 : Int) ≤ l) := by omega
    have fin := fin0 _ j 1 (Same.refl _ _) (by omega)
    simp (maxSteps := 1000000) [go_sem, w0, w1, w1', w2, w3, w4, w5, w6, h8, h8']
    exact fin

end Go.Proofs.Ytakkmkinfeddeaa
end
