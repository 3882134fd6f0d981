/- Part 5 of what the proof of the law FnExactIsDifferenceFamily rests on: contracts of functions of the program, for every argument that each names; no statement of the seat is proved here. -/
import Derived.Test.YtdfeoccjllljiaaFnExactIsDifferenceFamilyPart4

section
/- bits.Len of small numbers, the next power of two, the next number drawn by xorshift. -/
set_option linter.all false
set_option maxRecDepth 20000
set_option maxHeartbeats 4000000
namespace Go.Proofs.Ytdfeoccjllljiaa
open Go.Ab Go.Sort

theorem fdivNN (a b : Nat) : ((a : Int).fdiv (b : Int)) = ((a / b : Nat) : Int) := by
  rw [Int.fdiv_eq_ediv_of_nonneg _ (by omega)]; rfl
/-- A table of lengths. -/
def tabOK (s : ByteArray) : Bool := (List.range 256).all fun y => match s[y]? with | some v => v.toNat == bitsLen y | none => false
theorem bindO_tab {s : ByteArray} {x : Nat} {K : UInt8 → Prop} (ht : tabOK s = true) (hx : x < 256) (h : ∀ v : UInt8, v.toNat = bitsLen x → K v) : bindO s[x]? K := by
  have := List.all_eq_true.1 ht x (List.mem_range.2 hx)
  revert this
  cases hs : s[x]? with
  | none => intro h; cases h
  | some v => intro h2; exact ⟨v, rfl, h v (by simpa using h2)⟩
theorem bitsLen_lt {x k : Nat} (h : x < 2 ^ k) : bitsLen x ≤ k := (bitsLen_le_iff x k).2 h
theorem bitsLen_shift {x k : Nat} (h : 0 < x / 2 ^ k) : bitsLen x = k + bitsLen (x / 2 ^ k) := by
  have key : ∀ m, bitsLen x ≤ k + m ↔ bitsLen (x / 2 ^ k) ≤ m := by
    intro m
    rw [bitsLen_le_iff, bitsLen_le_iff, Nat.div_lt_iff_lt_mul (Nat.two_pow_pos k), ← Nat.pow_add, Nat.add_comm m k]
  have h1 := (key (bitsLen (x / 2 ^ k))).2 (Nat.le_refl _)
  have h2 : k ≤ bitsLen x := by
    rcases Nat.lt_or_ge (bitsLen x) k with h3 | h3
    · have := (bitsLen_le_iff x k).1 (by omega)
      rw [Nat.div_eq_of_lt this] at h; omega
    · exact h3
  have h3 := (key (bitsLen x - k)).1 (by omega)
  omega

theorem len64_ok {H : Heap} {x : Nat} (hx : x < 2097152) (Post : Value → Heap → Prop) (h : Post (.int .i64 (bitsLen x : Nat)) H) : ACalls Try.prog 200 [.int .u64 x] H Post := by
  refine acalls_vc (rs := [.tmp 2]) Try.func200 rfl rfl Try.ntmps200 rfl rfl ?_
  have a1 : ¬ ((4294967296 : Int) ≤ x) := by omega
  have a6 : ¬ 4294967296 ≤ x := by omega
  by_cases h1 : x < 256
  · have a2 : ¬ ((65536 : Int) ≤ x) := by omega
    have a3 : ¬ ((256 : Int) ≤ x) := by omega
    have a4 : ¬ 65536 ≤ x := by omega
    have a5 : ¬ 256 ≤ x := by omega
    have w1 : IntKind.u8.wrap (x : Int) = x := by rw [IntKind.wrap_u8]; omega
    simp (maxSteps := 1000000) [go_sem, a1, a2, a3, a4, a5, a6, w1]
    refine bindO_tab (by kernel_rfl) h1 ?_
    intro v hv
    have hb := bitsLen_lt (x := x) (k := 8) (by omega)
    generalize bitsLen x = L at *
    have w2 : IntKind.i64.wrap (L : Int) = L := i64w (by omega) (by omega)
    simp (maxSteps := 1000000) [go_sem, hv, w2]
    exact h
  · by_cases h2 : x < 65536
    · have a2 : ¬ ((65536 : Int) ≤ x) := by omega
      have a3 : ((256 : Int) ≤ x) := by omega
      have a4 : ¬ 65536 ≤ x := by omega
      have a5 : 256 ≤ x := by omega
      obtain ⟨y, hy⟩ : ∃ y, y = x / 256 := ⟨_, rfl⟩
      have hsh := bitsLen_shift (x := x) (k := 8) (by show 0 < x / 256; omega)
      have hsh' : bitsLen x = 8 + bitsLen y := by rw [hy]; exact hsh
      rw [hsh'] at h
      have w0 : (x : Int).fdiv 256 = y := by rw [show (256 : Int) = ((256 : Nat) : Int) from rfl, fdivNN, hy]
      have w4 : IntKind.i64.wrap 8 = 8 := i64w (by omega) (by omega)
      have w1 : IntKind.u8.wrap (y : Int) = y := by rw [IntKind.wrap_u8]; omega
      have hb := bitsLen_lt (x := y) (k := 8) (by omega)
      simp (maxSteps := 1000000) [go_sem, a1, a2, a3, a4, a5, a6, w0, w1]
      refine bindO_tab (by kernel_rfl) (show y < 256 by omega) ?_
      intro v hv
      generalize bitsLen y = L at *
      have w2 : IntKind.i64.wrap (L : Int) = L := i64w (by omega) (by omega)
      have w3 : IntKind.i64.wrap (8 + (L : Int)) = 8 + (L : Int) := i64w (by omega) (by omega)
      simp (maxSteps := 1000000) [go_sem, hv, w2, w3, w4]
      simpa using h
    · have a2 : ((65536 : Int) ≤ x) := by omega
      have a3 : ((256 : Int) ≤ x) := by omega
      have a4 : 65536 ≤ x := by omega
      have a5 : 256 ≤ x := by omega
      obtain ⟨y, hy⟩ : ∃ y, y = x / 65536 := ⟨_, rfl⟩
      have hsh := bitsLen_shift (x := x) (k := 16) (by show 0 < x / 65536; omega)
      have hsh' : bitsLen x = 16 + bitsLen y := by rw [hy]; exact hsh
      rw [hsh'] at h
      have w0 : (x : Int).fdiv 65536 = y := by rw [show (65536 : Int) = ((65536 : Nat) : Int) from rfl, fdivNN, hy]
      have w4 : IntKind.i64.wrap 16 = 16 := i64w (by omega) (by omega)
      have w1 : IntKind.u8.wrap (y : Int) = y := by rw [IntKind.wrap_u8]; omega
      have hb := bitsLen_lt (x := y) (k := 8) (by omega)
      have a7 : ¬ ((256 : Int) ≤ y) := by omega
      have a8 : ¬ 256 ≤ y := by omega
      simp (maxSteps := 1000000) [go_sem, a1, a2, a3, a4, a5, a6, w0, w1, a7, a8]
      refine bindO_tab (by kernel_rfl) (show y < 256 by omega) ?_
      intro v hv
      generalize bitsLen y = L at *
      have w2 : IntKind.i64.wrap (L : Int) = L := i64w (by omega) (by omega)
      have w3 : IntKind.i64.wrap (16 + (L : Int)) = 16 + (L : Int) := i64w (by omega) (by omega)
      simp (maxSteps := 1000000) [go_sem, hv, w2, w3, w4]
      simpa using h

theorem bitsLenC_ok {H : Heap} {x : Nat} (hx : x < 2097152) (Post : Value → Heap → Prop) (h : Post (.int .i64 (bitsLen x : Nat)) H) : ACalls Try.prog 184 [.int .u64 x] H Post := by
  refine acalls_vc (rs := [.tmp 2]) Try.func184 rfl rfl Try.ntmps184 rfl rfl ?_
  have w1 : IntKind.u64.wrap (x : Int) = x := by rw [IntKind.wrap_u64]; omega
  simp (maxSteps := 1000000) [go_sem, w1]
  refine len64_ok hx _ ?_
  simp (maxSteps := 1000000) [go_sem]
  exact h

theorem nextPow_ok {H : Heap} {x : Nat} (h0 : 0 < x) (hx : x < 2097152) (Post : Value → Heap → Prop) (h : ∀ m : Nat, 0 < m → m ≤ 2 * x → Post (.int .u64 m) H) : ACalls Try.prog 204 [.int .i64 x] H Post := by
  refine acalls_vc (rs := [.tmp 2]) Try.func204 rfl rfl Try.ntmps204 rfl rfl ?_
  have w1 : IntKind.u64.wrap (x : Int) = x := by rw [IntKind.wrap_u64]; omega
  simp (maxSteps := 1000000) [go_sem, w1]
  refine bitsLenC_ok hx _ ?_
  have hp := two_pow_bitsLen_le h0
  have hb := bitsLen_lt (x := x) (k := 21) (by omega)
  have fin := h _ (Nat.two_pow_pos (bitsLen x)) hp
  have hcast : ((2 : Int) ^ bitsLen x) = ((2 ^ bitsLen x : Nat) : Int) := by rw [Int.natCast_pow]; rfl
  have hmin : min (bitsLen x) 64 = bitsLen x := by omega
  generalize bitsLen x = L at *
  obtain ⟨T, hT⟩ : ∃ T, T = 2 ^ L := ⟨_, rfl⟩
  rw [← hT] at hcast hp fin
  have hsh : IntKind.u64.wrap ((2 : Int) ^ L) = T := by rw [hcast, IntKind.wrap_u64]; omega
  simp (maxSteps := 1000000) [go_sem, hmin, hsh]
  exact fin

theorem xorNext_ok {H : Heap} {rid : Nat} {z : Int} (hz : H[rid]? = some ⟨[.int .u64 z], true, true⟩) (Post : Value → Heap → Prop)
    (h : ∀ (z' : Nat) (H' : Heap), z' < 18446744073709551616 → Same (fun k => k = rid) H H' → H'[rid]? = some ⟨[.int .u64 z'], true, true⟩ → Post (.int .u64 z') H') :
    ACalls Try.prog 205 [.pointer (some ⟨rid, 0, none⟩)] H Post := by
  have hlt := (List.getElem?_eq_some_iff.1 hz).1
  have l0 : cellsAt H rid 0 1 = some [.int .u64 z] := by rw [cellsAt_of hz rfl (by simp)]; rfl
  have s0 : ∀ v : Int, storeAt H rid 0 [.int .u64 v] = some (H.set rid ⟨[.int .u64 v], true, true⟩) := by
    intro v; rw [storeAt_of hz rfl rfl (by simp) (by simp [Value.oneCell'])]; rfl
  have g1 : ∀ v : Int, (H.set rid ⟨[.int .u64 v], true, true⟩)[rid]? = some ⟨[.int .u64 v], true, true⟩ := fun v => List.getElem?_set_self hlt
  have l1 : ∀ v : Int, cellsAt (H.set rid ⟨[.int .u64 v], true, true⟩) rid 0 1 = some [.int .u64 v] := by
    intro v; rw [cellsAt_of (g1 v) rfl (by simp)]; rfl
  have s1 : ∀ v w : Int, storeAt (H.set rid ⟨[.int .u64 v], true, true⟩) rid 0 [.int .u64 w] = some (H.set rid ⟨[.int .u64 w], true, true⟩) := by
    intro v w; rw [storeAt_of (g1 v) rfl rfl (by simp) (by simp [Value.oneCell'])]; simp [over]
  have fin : ∀ v : Int, 0 ≤ v → v < 18446744073709551616 → Post (.int .u64 v) (H.set rid ⟨[.int .u64 v], true, true⟩) := by
    intro v h0 h1
    obtain ⟨k, rfl⟩ : ∃ k : Nat, v = k := ⟨v.toNat, by omega⟩
    exact h k _ (by omega) same_set (g1 _)
  refine acalls_vc (rs := [.tmp 2]) Try.func205 rfl rfl Try.ntmps205 rfl rfl ?_
  simp (maxSteps := 1000000) [go_sem]
  refine AWp.draw mixed [(0, false), (1, false), (2, false), (3, false), (4, false), (5, false), (6, false), (7, false), (8, false), (9, false)] (by kernel_rfl) ?_
  simp (maxSteps := 1000000) [go_sem, l0, s0]
  refine AWp.draw mixed [(0, false), (1, false), (2, false), (3, false), (4, false), (5, false), (6, false), (7, false), (8, false), (9, false)] (by kernel_rfl) ?_
  simp (maxSteps := 1000000) [go_sem, l1, s1]
  refine AWp.draw mixed [(0, false), (1, false), (2, false), (3, false), (4, false), (5, false), (6, false), (7, false), (8, false), (9, false)] (by kernel_rfl) ?_
  simp (maxSteps := 1000000) [go_sem, l1, s1]
  refine fin _ ?_ ?_ <;> (rw [IntKind.wrap_u64]; omega)

theorem and_u64r {a b : Nat} (hb : b < 2 ^ 62) : IntKind.u64.wrap ((@BitVec.toNat 64 (@HAnd.hAnd (BitVec 64) (BitVec 64) (BitVec 64) (@instHAndOfAndOp (BitVec IntKind.u64.bits) (@BitVec.instAndOp IntKind.u64.bits)) (BitVec.ofNat 64 a) (BitVec.ofNat 64 b)) : Nat) : Int) = (((a % 2 ^ 64) &&& b : Nat) : Int) := by
  have e : (@BitVec.toNat 64 (@HAnd.hAnd (BitVec 64) (BitVec 64) (BitVec 64) (@instHAndOfAndOp (BitVec IntKind.u64.bits) (@BitVec.instAndOp IntKind.u64.bits)) (BitVec.ofNat 64 a) (BitVec.ofNat 64 b))) = (a % 2 ^ 64) &&& b := by
    show ((BitVec.ofNat 64 a) &&& (BitVec.ofNat 64 b)).toNat = _
    rw [BitVec.toNat_and, BitVec.toNat_ofNat, BitVec.toNat_ofNat, Nat.mod_eq_of_lt (show b < 2 ^ 64 by omega)]
  rw [e, IntKind.wrap_u64]
  have h1 : (a % 2 ^ 64) &&& b ≤ b := Nat.and_le_right
  omega

end Go.Proofs.Ytdfeoccjllljiaa
end

section
/- Sorting by a function: the breaking of patterns. -/
set_option linter.all false
set_option maxRecDepth 20000
set_option maxHeartbeats 8000000
namespace Go.Proofs.Ytdfeoccjllljiaa
open Go.Ab Go.Sort

theorem breakO_ok {H : Heap} {id a b n : Nat} {d : Array Int} {Q : Int → Prop} (hA : Arr cellsI H id d) (hn : d.size = n) (hl : n ≤ 1048576) (hab : a ≤ b) (hb : b ≤ n) (hQ : QA Q d)
    (Post : Value → Heap → Prop) (h : ∀ H' d', Same (fun k => k = id) H H' → Arr cellsI H' id d' → QA Q d' → PermIn a b d d' → Post (.tuple #[]) H') :
    ACalls Try.prog 192 [lv 1 id 0 n, .int .i64 a, .int .i64 b] H Post := by
  refine acalls_vc (rs := []) Try.func192 rfl rfl Try.ntmps192 rfl rfl ?_
  obtain ⟨l, hll⟩ : ∃ l, l = b - a := ⟨_, rfl⟩
  obtain ⟨q, hq⟩ : ∃ q, q = l / 4 := ⟨_, rfl⟩
  have w0 : IntKind.i64.wrap ((b : Int) - a) = (l : Int) := by rw [hll, i64w (by omega) (by omega)]; omega
  by_cases h8 : 8 ≤ l
  · have h8' : (8 : Int) ≤ l := by omega
    obtain ⟨i0, hi0⟩ : ∃ i0, i0 = a + q * 2 - 1 := ⟨_, rfl⟩
    have w1 : IntKind.i64.wrap ((l : Int) / 4) = (q : Int) := by rw [hq, i64w (by omega) (by omega)]; omega
    have w2 : IntKind.i64.wrap ((q : Int) * 2) = (q : Int) * 2 := i64w (by omega) (by omega)
    have w3 : IntKind.i64.wrap ((a : Int) + (q : Int) * 2) = (a : Int) + (q : Int) * 2 := i64w (by omega) (by omega)
    have w4 : IntKind.i64.wrap ((a : Int) + (q : Int) * 2 - 1) = (i0 : Int) := by rw [hi0, i64w (by omega) (by omega)]; omega
    have w5 : IntKind.i64.wrap ((a : Int) + (q : Int) * 2 + 1) = (i0 : Int) + 2 := by rw [i64w (by omega) (by omega)]; omega
    have w6 : IntKind.u64.wrap (l : Int) = l := by rw [IntKind.wrap_u64]; omega
    simp (maxSteps := 1000000) [go_sem, w0, h8, h8', w6]
    have hp0 : H <+: H ++ [⟨[.int .u64 l], true, true⟩] := List.prefix_append _ _
    have hz0 : (H ++ [(⟨[.int .u64 l], true, true⟩ : Blk)])[H.length]? = some ⟨[.int .u64 l], true, true⟩ := by simp
    have hidl := hA.lt
    have hA0 := hA.pre hp0
    have hS0 : Same (fun k => k = id) H (H ++ [⟨[.int .u64 l], true, true⟩]) := Same.of_prefix hp0
    generalize H ++ [(⟨[.int .u64 l], true, true⟩ : Blk)] = H0 at hp0 hz0 hA0 hS0 ⊢
    refine nextPow_ok (by omega) (by omega) _ ?_
    intro m hm0 hm
    obtain ⟨m1, hm1⟩ : ∃ m1, m1 = m - 1 := ⟨_, rfl⟩
    have w7 : IntKind.u64.wrap ((m : Int) - 1) = (m1 : Int) := by rw [hm1, IntKind.wrap_u64]; omega
    simp (maxSteps := 1000000) [go_sem, w1, w2, w3, w4]
    refine AWp.loopVc (St := Nat × Array Int × Int) (fun s => [(0, lv 1 id 0 n), (1, .int .i64 a), (6, .int .i64 l), (7, .pointer (some ⟨H.length, 0, none⟩)), (8, .int .u64 m), (9, .int .i64 s.1)])
      (fun s H' => i0 ≤ s.1 ∧ s.1 ≤ i0 + 3 ∧ s.2.1.size = n ∧ QA Q s.2.1 ∧ Same (fun k => k = id) H H' ∧ Arr cellsI H' id s.2.1 ∧ PermIn a b d s.2.1 ∧ H'[H.length]? = some ⟨[.int .u64 s.2.2], true, true⟩) (fun s => i0 + 3 - s.1) (i0, d, (l : Int)) ?_ ?_ ?_
    · simp [upF, Fr.get, Up.refl]
    · exact ⟨Nat.le_refl _, by simp only; omega, hn, hQ, hS0, hA0, permIn_refl _ _ _, hz0⟩
    · rintro K ⟨i, d1, z⟩ H1 ⟨hi1, hi2, hsz, hQ1, hS1, hA1, hP, hz⟩ hK
      simp only at hi1 hi2 hsz hQ1 hS1 hA1 hP hz
      by_cases hi3 : i ≤ i0 + 2
      · have hi3' : (i : Int) ≤ (i0 : Int) + 2 := by omega
        have hw_i : IntKind.i64.wrap ((i : Int) + 1) = (i : Int) + 1 := i64w (by omega) (by omega)
        simp (maxSteps := 1000000) [go_sem, w1, w2, w3, w5, hi3, hi3']
        refine xorNext_ok hz _ ?_
        intro z' H2 hzl hS2 hz2
        have hA2 : Arr cellsI H2 id d1 := hS2.get hA1 (by omega)
        have hS2' : Same (fun k => k = id) H H2 := hS1.via hS2 (by intro j hj e; omega)
        obtain ⟨o, ho⟩ : ∃ o, o = (z' % 2 ^ 64) &&& m1 := ⟨_, rfl⟩
        have hol : o ≤ m1 := by rw [ho]; exact Nat.and_le_right
        have hand := and_u64r (a := z') (b := m1) (by omega)
        rw [← ho] at hand
        have w8 : IntKind.i64.wrap (o : Int) = o := i64w (by omega) (by omega)
        have fin : ∀ (o2 : Nat), o2 < l → ∀ (H3 : Heap), H3 = H2 → Same (fun k => k = id) H H3 := fun _ _ H3 e => e ▸ hS2'
        by_cases hol2 : l ≤ o
        · have hol2' : (l : Int) ≤ o := by omega
          obtain ⟨o2, ho2⟩ : ∃ o2, o2 = o - l := ⟨_, rfl⟩
          have w9 : IntKind.i64.wrap ((o : Int) - l) = (o2 : Int) := by rw [ho2, i64w (by omega) (by omega)]; omega
          have hlt : o2 < l := by omega
          simp (maxSteps := 1000000) [go_sem, w7, hand, w8, hol2, hol2', w9]
          obtain ⟨ao, hao⟩ : ∃ ao, ao = a + o2 := ⟨_, rfl⟩
          have wa : IntKind.i64.wrap ((a : Int) + o2) = (ao : Int) := by rw [hao, i64w (by omega) (by omega)]; omega
          have u1 : i < (d1).size := by omega
          have u2 : ao < (d1).size := by omega
          have u3 : i < n := by omega
          have u4 : ao < n := by omega
          have uca := (hA2).load cellsI_len u1
          have ucb := (hA2).load cellsI_len u2
          obtain ⟨H5, H6, us1, us0, hA6, hS6, ul⟩ := (hA2).swap cellsI_len cellsI_one u1 u2
          obtain ⟨ux, uhx⟩ : ∃ x, x = (d1)[i]! := ⟨_, rfl⟩
          obtain ⟨uy, uhy⟩ : ∃ y, y = (d1)[ao]! := ⟨_, rfl⟩
          rw [← uhx] at uca us0
          rw [← uhy] at ucb us1
          simp only [cellsI, Nat.mul_one, Row.val] at uca ucb us0 us1
          refine AWp.draw mixed [(0, false), (1, false), (2, false), (3, false), (4, false), (5, false), (6, false), (7, false), (8, false), (9, false), (10, false), (11, false), (12, false), (13, false), (14, false), (15, false), (16, false), (17, false), (18, false), (19, false)] (by kernel_rfl) ?_
          simp (maxSteps := 1000000) [go_sem, wa, uca, ucb, u3, u4, us1, us0, hw_i]
          have hz6 := hS6.get hz2 (by omega)
          exact hK (i + 1, swp d1 i ao, (z' : Int)) _ _ (by simp only; omega) (by simp [upF, Fr.get, Up.refl]) ⟨by simp only; omega, by simp only; omega, by rw [size_swp]; exact hsz, hQ1.swp u1 u2, hS2'.trans hS6, hA6, permIn_trans _ _ _ a b hP (swp_permIn d1 a b i ao (by omega) (by omega) (by omega) (by omega) (by omega)), hz6⟩
        · have hol2' : ¬ ((l : Int) ≤ o) := by omega
          have hlt : o < l := by omega
          simp (maxSteps := 1000000) [go_sem, w7, hand, w8, hol2, hol2']
          obtain ⟨ao, hao⟩ : ∃ ao, ao = a + o := ⟨_, rfl⟩
          have wa : IntKind.i64.wrap ((a : Int) + o) = (ao : Int) := by rw [hao, i64w (by omega) (by omega)]; omega
          have u1 : i < (d1).size := by omega
          have u2 : ao < (d1).size := by omega
          have u3 : i < n := by omega
          have u4 : ao < n := by omega
          have uca := (hA2).load cellsI_len u1
          have ucb := (hA2).load cellsI_len u2
          obtain ⟨H5, H6, us1, us0, hA6, hS6, ul⟩ := (hA2).swap cellsI_len cellsI_one u1 u2
          obtain ⟨ux, uhx⟩ : ∃ x, x = (d1)[i]! := ⟨_, rfl⟩
          obtain ⟨uy, uhy⟩ : ∃ y, y = (d1)[ao]! := ⟨_, rfl⟩
          rw [← uhx] at uca us0
          rw [← uhy] at ucb us1
          simp only [cellsI, Nat.mul_one, Row.val] at uca ucb us0 us1
          refine AWp.draw mixed [(0, false), (1, false), (2, false), (3, false), (4, false), (5, false), (6, false), (7, false), (8, false), (9, false), (10, false), (11, false), (12, false), (13, false), (14, false), (15, false), (16, false), (17, false), (18, false), (19, false)] (by kernel_rfl) ?_
          simp (maxSteps := 1000000) [go_sem, wa, uca, ucb, u3, u4, us1, us0, hw_i]
          have hz6 := hS6.get hz2 (by omega)
          exact hK (i + 1, swp d1 i ao, (z' : Int)) _ _ (by simp only; omega) (by simp [upF, Fr.get, Up.refl]) ⟨by simp only; omega, by simp only; omega, by rw [size_swp]; exact hsz, hQ1.swp u1 u2, hS2'.trans hS6, hA6, permIn_trans _ _ _ a b hP (swp_permIn d1 a b i ao (by omega) (by omega) (by omega) (by omega) (by omega)), hz6⟩
      · have hi3' : ¬ ((i : Int) ≤ (i0 : Int) + 2) := by omega
        simp (maxSteps := 1000000) [go_sem, w1, w2, w3, w5, hi3, hi3']
        exact h H1 d1 hS1 hA1 hQ1 hP
  · have h8' : ¬ ((8 : Int) ≤ l) := by omega
    have fin := h H d (Same.refl _ _) hA hQ (permIn_refl _ _ _)
    simp (maxSteps := 1000000) [go_sem, w0, h8, h8']
    exact fin

end Go.Proofs.Ytdfeoccjllljiaa
end

section
/- Sorting by a function: pdqsort. -/
set_option linter.all false
set_option maxRecDepth 20000
set_option maxHeartbeats 8000000
namespace Go.Proofs.Ytdfeoccjllljiaa
open Go.Ab Go.Sort

theorem pdqO_ok {lt : Int → Int → Bool} {Q : Int → Prop} {n : Nat} (hS : SWO lt) (hl : n ≤ 1048576) : ∀ (N : Nat) {H : Heap} {id a b limit : Nat} {d : Array Int}, b - a ≤ N → Arr cellsI H id d → d.size = n → a ≤ b → b ≤ n → limit ≤ 64 → Below lt a b d → QA Q d →
    CmpO lt Q id H → ∀ (Post : Value → Heap → Prop), (∀ H' d', Same (fun k => k = id) H H' → Arr cellsI H' id d' → PermIn a b d d' → SortedIn lt a b d' → Post (.tuple #[]) H') →
    ACalls Try.prog 183 [lv 1 id 0 n, .int .i64 a, .int .i64 b, .int .i64 limit] H Post := by
  intro N
  induction N using Nat.strongRecOn with
  | _ N ih =>
  intro H id a b limit d hN hA hn hab hb hlim hBel hQ hC Post h
  refine acalls_vc (rs := []) Try.func183 rfl rfl Try.ntmps183 rfl rfl ?_
  simp (maxSteps := 1000000) [go_sem]
  refine AWp.loopA (St := Nat × Nat × Nat × Bool × Bool × Array Int) (fun s => [(0, lv 1 id 0 n), (1, .int .i64 s.1), (2, .int .i64 s.2.1), (3, .int .i64 s.2.2.1), (8, .bool s.2.2.2.1), (9, .bool s.2.2.2.2.1)])
    (fun s H' => a ≤ s.1 ∧ s.1 ≤ s.2.1 ∧ s.2.1 ≤ b ∧ s.2.2.1 ≤ 64 ∧ s.2.2.2.2.2.size = n ∧ QA Q s.2.2.2.2.2 ∧ Same (fun k => k = id) H H' ∧ Arr cellsI H' id s.2.2.2.2.2 ∧ Below lt s.1 s.2.1 s.2.2.2.2.2 ∧
      ∀ R, PermIn s.1 s.2.1 s.2.2.2.2.2 R → SortedIn lt s.1 s.2.1 R → PermIn a b d R ∧ SortedIn lt a b R) (fun s => s.2.1 - s.1) (a, b, limit, true, true, d) ?_ ?_ ?_
  · simp [upF, Fr.get, Up.refl]
  · exact ⟨Nat.le_refl _, hab, Nat.le_refl _, hlim, hn, hQ, Same.refl _ _, hA, hBel, fun R h1 h2 => ⟨h1, h2⟩⟩
  · rintro K ⟨a1, b1, li, wb, wp, d1⟩ H1 ⟨haa, hab1, hbb, hli, hsz, hQ1, hS1, hA1, hB1, hfin⟩ hK
    simp only at haa hab1 hbb hli hsz hQ1 hS1 hA1 hB1 hfin
    obtain ⟨l, hll⟩ : ∃ l, l = b1 - a1 := ⟨_, rfl⟩
    have w0 : IntKind.i64.wrap ((b1 : Int) - a1) = (l : Int) := by rw [hll, i64w (by omega) (by omega)]; omega
    refine AWp.block ?_
    -- the length
    refine AWp.ofVc ?_
    simp (maxSteps := 1000000) [go_sem, w0]
    by_cases h12 : l ≤ 12
    · have h12' : (l : Int) ≤ 12 := by omega
      refine AWp.ofVc ?_
      simp (maxSteps := 1000000) [go_sem, h12, h12']
      refine insO_ok hA1 hsz hl (by omega) (by omega) hQ1 (hC.keep hS1) _ ?_
      intro H2 hS2 hA2
      obtain ⟨f1, f2⟩ := insertionSort_holds hS d1 a1 b1 (by omega) (by omega)
      obtain ⟨f3, f4⟩ := hfin _ f1 f2
      have fin := h H2 _ (hS1.trans hS2) hA2 f3 f4
      simp (maxSteps := 1000000) [go_sem]
      exact fin
    have h12' : ¬ ((l : Int) ≤ 12) := by omega
    refine AWp.ofVc ?_
    simp (maxSteps := 1000000) [go_sem, h12, h12']
    by_cases hl0 : li = 0
    · subst hl0
      refine AWp.ofVc ?_
      simp (maxSteps := 1000000) [go_sem]
      refine heapO_ok hA1 hsz hl (by omega) (by omega) hQ1 (hC.keep hS1) _ ?_
      intro H2 hS2 hA2
      obtain ⟨f1, f2⟩ := heapSort_holds hS d1 a1 b1 (by omega) (by omega)
      obtain ⟨f3, f4⟩ := hfin _ f1 f2
      have fin := h H2 _ (hS1.trans hS2) hA2 f3 f4
      simp (maxSteps := 1000000) [go_sem]
      exact fin
    have hl0' : ((li : Int) == 0) = false := by rw [beq_eq_false_iff_ne]; omega
    refine AWp.ofVc ?_
    simp (maxSteps := 1000000) [go_sem, hl0, hl0']
    -- the patterns
    refine AWp.seqCut (St := Nat × Array Int) (fun s => [(0, lv 1 id 0 n), (1, .int .i64 a1), (2, .int .i64 b1), (3, .int .i64 s.1), (8, .bool wb), (9, .bool wp), (10, .int .i64 l)])
      (fun s H' => s.1 ≤ 64 ∧ QA Q s.2 ∧ Same (fun k => k = id) H H' ∧ Arr cellsI H' id s.2 ∧ PermIn a1 b1 d1 s.2) ?_ ?_
    · intro KE hKE
      cases wb with
      | true =>
        simp (maxSteps := 1000000) [go_sem]
        exact hKE (li, d1) _ _ (by simp [upF, Fr.get, Up.refl]) ⟨hli, hQ1, hS1, hA1, permIn_refl _ _ _⟩
      | false =>
        obtain ⟨lj, hlj⟩ : ∃ lj, lj = li - 1 := ⟨_, rfl⟩
        have wl : IntKind.i64.wrap ((li : Int) - 1) = (lj : Int) := by rw [hlj, i64w (by omega) (by omega)]; omega
        simp (maxSteps := 1000000) [go_sem]
        refine breakO_ok hA1 hsz hl (by omega) (by omega) hQ1 _ ?_
        intro H2 d2 hS2 hA2 hQ2 hP2
        simp (maxSteps := 1000000) [go_sem, wl]
        exact hKE (lj, d2) _ _ (by simp [upF, Fr.get, Up.refl]) ⟨by simp only; omega, hQ2, hS1.trans hS2, hA2, hP2⟩
    rintro ⟨lj, d2⟩ H2 ⟨hlj, hQ2, hS2, hA2, hP2⟩
    simp only at hlj hQ2 hS2 hA2 hP2 ⊢
    have hsz2 : d2.size = n := by rw [hP2.1]; exact hsz
    -- the pivot
    refine AWp.ofVc ?_
    simp (maxSteps := 1000000) [go_sem]
    refine pivotO_ok hA2 hsz2 hl (by omega) (by omega) hQ2 (hC.keep hS2) _ ?_
    intro H3 p t hp3 hpr
    have hS3 := hS2.via (Same.of_prefix (S := fun _ => False) hp3) (fun _ _ h => h.elim)
    have hA3 := hA2.pre hp3
    simp (maxSteps := 1000000) [go_sem]
    refine AWp.seqCut (St := Nat × Int × Array Int) (fun s => [(0, lv 1 id 0 n), (1, .int .i64 a1), (2, .int .i64 b1), (3, .int .i64 lj), (8, .bool wb), (9, .bool wp), (10, .int .i64 l), (11, .int .i64 s.1), (12, .int .i64 s.2.1)])
      (fun s H' => a1 ≤ s.1 ∧ s.1 < b1 ∧ QA Q s.2.2 ∧ Same (fun k => k = id) H H' ∧ Arr cellsI H' id s.2.2 ∧ PermIn a1 b1 d2 s.2.2) ?_ ?_
    · intro KE hKE
      by_cases ht : t = 2
      · subst ht
        obtain ⟨p2, hp2⟩ : ∃ p2, p2 = b1 - 1 - (p - a1) := ⟨_, rfl⟩
        have w1 : IntKind.i64.wrap ((b1 : Int) - 1) = (b1 : Int) - 1 := i64w (by omega) (by omega)
        have w2 : IntKind.i64.wrap ((p : Int) - a1) = (p : Int) - a1 := i64w (by omega) (by omega)
        have w3 : IntKind.i64.wrap ((b1 : Int) - 1 - ((p : Int) - a1)) = (p2 : Int) := by rw [hp2, i64w (by omega) (by omega)]; omega
        simp (maxSteps := 1000000) [go_sem]
        refine reverseO_ok hA3 hsz2 hl (by omega) (by omega) _ ?_
        intro H4 hS4 hA4
        have hP4 := reverseRange_holds d2 a1 b1 (by omega) (by omega)
        simp (maxSteps := 1000000) [go_sem, w1, w2, w3]
        exact hKE (p2, 1, reverseRange d2 a1 b1) _ _ (by simp [upF, Fr.get, Up.refl]) ⟨by simp only; omega, by simp only; omega, QA_perm (by omega) hP4 hQ2, hS3.trans hS4, hA4, hP4⟩
      · have ht' : (t == 2) = false := by rw [beq_eq_false_iff_ne]; exact ht
        simp (maxSteps := 1000000) [go_sem, ht, ht']
        exact hKE (p, t, d2) _ _ (by simp [upF, Fr.get, Up.refl]) ⟨hpr.1, hpr.2, hQ2, hS3, hA3, permIn_refl _ _ _⟩
    rintro ⟨q, u, d3⟩ H4 ⟨hq1, hq2, hQ3, hS4, hA4, hP3⟩
    simp only at hq1 hq2 hQ3 hS4 hA4 hP3 ⊢
    have hsz3 : d3.size = n := by rw [hP3.1]; exact hsz2
    have hP13 := permIn_trans _ _ _ _ _ hP2 hP3
    have hB3 : Below lt a1 b1 d3 := hB1.perm (by omega) hP13
    -- it may be sorted
    refine AWp.seqCut (St := Array Int) (fun _ => [(0, lv 1 id 0 n), (1, .int .i64 a1), (2, .int .i64 b1), (3, .int .i64 lj), (8, .bool wb), (9, .bool wp), (10, .int .i64 l), (11, .int .i64 q)])
      (fun d4 H' => QA Q d4 ∧ Same (fun k => k = id) H H' ∧ Arr cellsI H' id d4 ∧ PermIn a1 b1 d1 d4) ?_ ?_
    · intro KE hKE
      have skip := fun fr' hfr => hKE d3 fr' H4 hfr ⟨hQ3, hS4, hA4, hP13⟩
      cases wb with
      | false =>
        simp (maxSteps := 1000000) [go_sem, undef]
        exact skip _ (by simp [upF, Fr.get, Up.refl])
      | true =>
        cases wp with
        | false =>
          simp (maxSteps := 1000000) [go_sem, undef]
          exact skip _ (by simp [upF, Fr.get, Up.refl])
        | true =>
          by_cases hu : u = 1
          · subst hu
            simp (maxSteps := 1000000) [go_sem]
            refine partInsO_ok hA4 hsz3 hl (by omega) (by omega) hQ3 (hC.keep hS4) _ ?_
            intro H6 hS6 hA6
            obtain ⟨f1, f2⟩ := partialInsertionSort_holds hS d3 a1 b1 (by omega) (by omega) hB3
            generalize partialInsertionSort lt d3 a1 b1 = r at *
            obtain ⟨d4, ok⟩ := r
            simp only at hA6 f1 f2 ⊢
            have hP14 := permIn_trans _ _ _ _ _ hP13 f1
            cases ok with
            | true =>
              obtain ⟨f3, f4⟩ := hfin _ hP14 (f2 rfl)
              have fin := h H6 _ (hS4.trans hS6) hA6 f3 f4
              simp (maxSteps := 1000000) [go_sem]
              exact fin
            | false =>
              simp (maxSteps := 1000000) [go_sem]
              exact hKE d4 _ _ (by simp [upF, Fr.get, Up.refl]) ⟨QA_perm (by omega) f1 hQ3, hS4.trans hS6, hA6, hP14⟩
          · have hu' : (u == 1) = false := by rw [beq_eq_false_iff_ne]; exact hu
            simp (maxSteps := 1000000) [go_sem, hu, hu']
            exact skip _ (by simp [upF, Fr.get, Up.refl])
    rintro d4 H6 ⟨hQ4, hS6, hA6, hP4⟩
    clear hA4 hA3 hA2 hS2 hS3 hS4 hP2 hP3 hP13 hQ2 hQ3 hB3
    have hsz4 : d4.size = n := by rw [hP4.1]; exact hsz
    have hB4 : Below lt a1 b1 d4 := hB1.perm (by omega) hP4
    have hfin4 : ∀ R, PermIn a1 b1 d4 R → SortedIn lt a1 b1 R → PermIn a b d R ∧ SortedIn lt a b R := fun R r1 r2 => hfin R (permIn_trans _ _ _ _ _ hP4 r1) r2
    -- the element ahead
    refine AWp.seqCut (St := Unit) (fun _ => [(0, lv 1 id 0 n), (1, .int .i64 a1), (2, .int .i64 b1), (3, .int .i64 lj), (8, .bool wb), (9, .bool wp), (10, .int .i64 l), (11, .int .i64 q)])
      (fun _ H' => Same (fun k => k = id) H H' ∧ Arr cellsI H' id d4) ?_ ?_
    · intro KE hKE
      by_cases ha0 : a1 = 0
      · subst ha0
        simp (maxSteps := 1000000) [go_sem]
        refine AWp.draw mixed [(0, false), (1, false), (2, false), (3, false), (4, false), (5, false), (6, false), (7, false), (8, false), (9, false), (10, false), (11, false), (12, false), (13, false), (14, false)] (by kernel_rfl) ?_
        simp (maxSteps := 1000000) [go_sem, undef]
        exact hKE () _ _ (by simp [upF, Fr.get, Up.refl]) ⟨hS6, hA6⟩
      · obtain ⟨r, hr⟩ : ∃ r, a1 - 1 = r := ⟨_, rfl⟩
        have wr : IntKind.i64.wrap ((a1 : Int) - 1) = (r : Int) := by rw [← hr, i64w (by omega) (by omega)]; omega
        have ha0' : (0 : Int) < a1 := by omega
        have ha1' : 0 < a1 := by omega
        have hi1 : r < d4.size := by omega
        have hi0 : q < d4.size := by omega
        have n1 : r < n := by omega
        have n0 : q < n := by omega
        have c1 := hA6.load cellsI_len hi1
        have c0 := hA6.load cellsI_len hi0
        have q1 := hQ4 _ hi1
        have q0 := hQ4 _ hi0
        obtain ⟨x, hx⟩ : ∃ x, d4[r]! = x := ⟨_, rfl⟩
        obtain ⟨y, hy⟩ : ∃ y, d4[q]! = y := ⟨_, rfl⟩
        rw [hx] at c1 q1
        rw [hy] at c0 q0
        simp only [cellsI, Nat.mul_one, Row.val] at c1 c0
        simp (maxSteps := 1000000) [go_sem]
        refine AWp.draw mixed [(0, false), (1, false), (2, false), (3, false), (4, false), (5, false), (6, false), (7, false), (8, false), (9, false), (10, false), (11, false), (12, false), (13, false), (14, false)] (by kernel_rfl) ?_
        simp (maxSteps := 1000000) [go_sem, ha0, ha0', ha1', c1, c0, n1, n0, wr]
        refine hC H6 x y _ hS6 q1 q0 ?_
        intro H7 c hp7 hc
        have hS7 := hS6.via (Same.of_prefix (S := fun _ => False) hp7) (fun _ _ h => h.elim)
        have hA7 := hA6.pre hp7
        cases hl' : lt x y with
        | true =>
          rw [hl'] at hc
          have hc0 := hc
          simp (maxSteps := 1000000) [go_sem, hc, hc0]
          exact hKE () _ _ (by simp [upF, Fr.get, Up.refl]) ⟨hS7, hA7⟩
        | false =>
          rw [hl'] at hc
          have hc0 := hc
          have hnl : lt d4[a1 - 1]! d4[q]! = false := by rw [hr, hx, hy]; exact hl'
          simp (maxSteps := 1000000) [go_sem, hc, hc0]
          refine partEqO_ok hA7 hsz4 hl hq1 hq2 (by omega) hQ4 (hC.keep hS7) _ ?_
          intro H8 hS8 hA8
          obtain ⟨⟨mid, d5⟩, he⟩ : ∃ r, partitionEqual lt d4 a1 b1 q = r := ⟨_, rfl⟩
          rw [he] at hA8 ⊢
          have hA8 : Arr cellsI H8 id d5 := hA8
          obtain ⟨r1, r2, r3, r4, r5⟩ := round_eq hS (partitionEqual_holds lt) ha1' hq1 hq2 (by omega) hB4 hnl he
          have hP5 : PermIn a1 b1 d4 d5 := by
            have := (partitionEqual_holds lt hS d4 a1 b1 q hq1 hq2 (by omega) (fun i hi hi' => by
              rcases hB4 with h0 | hB
              · omega
              · exact hS.ntrans _ _ _ (hB i hi hi') hnl)).2.2.1
            rw [he] at this; exact this
          simp (maxSteps := 1000000) [go_sem]
          exact hK (mid, b1, lj, wb, wp, d5) _ _ (by simp only; omega) (by simp [upF, Fr.get, Up.refl]) ⟨by simp only; omega, r2, hbb, hlj, by simp only; omega, QA_perm (by omega) hP5 hQ4, hS7.trans hS8, hA8, r4, fun R R1 R2 => by obtain ⟨g1, g2⟩ := r5 R R1 R2; exact hfin4 R g1 g2⟩
    rintro _ H7 ⟨hS7, hA7⟩
    refine AWp.ofVc ?_
    simp (maxSteps := 1000000) [go_sem]
    refine partO_ok hA7 hsz4 hl hq1 hq2 (by omega) hQ4 (hC.keep hS7) _ ?_
    intro H8 hS8 hA8
    obtain ⟨⟨mid, ap, d5⟩, he⟩ : ∃ r, partition lt d4 a1 b1 q = r := ⟨_, rfl⟩
    rw [he] at hA8 ⊢
    have hA8 : Arr cellsI H8 id d5 := hA8
    obtain ⟨r1, r2, r3, r4, r5, r6, r7⟩ := round_part hS (partition_holds lt) hq1 hq2 (by omega) hB4 he
    have hP5 : PermIn a1 b1 d4 d5 := by
      have := (partition_holds lt hS d4 a1 b1 q hq1 hq2 (by omega)).2.2.1
      rw [he] at this; exact this
    have hQ5 := QA_perm (by omega) hP5 hQ4
    have hS8 := hS7.trans hS8
    obtain ⟨ll, hll2⟩ : ∃ ll, ll = mid - a1 := ⟨_, rfl⟩
    obtain ⟨lr, hlr⟩ : ∃ lr, lr = b1 - mid := ⟨_, rfl⟩
    obtain ⟨m1, hm1⟩ : ∃ m1, m1 = mid + 1 := ⟨_, rfl⟩
    have w1 : IntKind.i64.wrap ((mid : Int) - a1) = (ll : Int) := by rw [hll2, i64w (by omega) (by omega)]; omega
    have w2 : IntKind.i64.wrap ((b1 : Int) - mid) = (lr : Int) := by rw [hlr, i64w (by omega) (by omega)]; omega
    have w3 : IntKind.i64.wrap ((l : Int) / 8) = (l : Int) / 8 := i64w (by omega) (by omega)
    have w4 : IntKind.i64.wrap ((mid : Int) + 1) = (m1 : Int) := by rw [hm1, i64w (by omega) (by omega)]; omega
    simp (maxSteps := 1000000) [go_sem]
    refine vc_sound _ _ _ _ ?_
    by_cases hlr2 : ll < lr
    · have hlr2' : (ll : Int) < lr := by omega
      simp (maxSteps := 1000000) [go_sem, w1, w2, w3, hlr2, hlr2']
      refine ih (mid - a1) (by omega) (Nat.le_refl _) hA8 (by omega) r1 (by omega) hlj r4 hQ5 (hC.keep hS8) _ ?_
      intro H9 d6 hS9 hA9 hP6 hs6
      obtain ⟨g1, g2⟩ := r6 d6 hP6 hs6
      simp (maxSteps := 1000000) [go_sem, w4]
      refine hK (m1, b1, lj, decide ((l : Int) / 8 ≤ ll), ap, d6) _ _ (by simp only; omega) (by simp [upF, Fr.get, Up.refl]) ⟨by simp only; omega, by simp only; omega, hbb, hlj, by simp only; rw [hP6.1]; omega, QA_perm (by omega) hP6 hQ5, hS8.trans hS9, hA9, by simp only [hm1]; exact g1, ?_⟩
      simp only [hm1]
      intro R R1 R2
      obtain ⟨k1, k2⟩ := g2 R R1 R2
      exact hfin4 R k1 k2
    · have hlr2' : ¬ ((ll : Int) < lr) := by omega
      simp (maxSteps := 1000000) [go_sem, w1, w2, w3, w4, hlr2, hlr2']
      refine ih (b1 - m1) (by omega) (Nat.le_refl _) hA8 (by omega) (by omega) (by omega) hlj (by rw [hm1]; exact r5) hQ5 (hC.keep hS8) _ ?_
      intro H9 d6 hS9 hA9 hP6 hs6
      rw [hm1] at hP6 hs6
      obtain ⟨g1, g2⟩ := r7 d6 hP6 hs6
      simp (maxSteps := 1000000) [go_sem]
      refine hK (a1, mid, lj, decide ((l : Int) / 8 ≤ lr), ap, d6) _ _ (by simp only; omega) (by simp [upF, Fr.get, Up.refl]) ⟨haa, r1, by simp only; omega, hlj, by simp only; rw [hP6.1]; omega, QA_perm (by omega) hP6 hQ5, hS8.trans hS9, hA9, g1, ?_⟩
      intro R R1 R2
      obtain ⟨k1, k2⟩ := g2 R R1 R2
      exact hfin4 R k1 k2

end Go.Proofs.Ytdfeoccjllljiaa
end

section
/- Sorting by a function: slices.Sort. -/
set_option linter.all false
set_option maxRecDepth 20000
set_option maxHeartbeats 8000000
namespace Go.Proofs.Ytdfeoccjllljiaa
open Go.Ab Go.Sort

theorem w64_0O : IntKind.i64.wrap 0 = 0 := i64w (by omega) (by omega)
theorem w64_1O : IntKind.i64.wrap 1 = 1 := i64w (by omega) (by omega)
theorem wu64_0O : IntKind.u64.wrap 0 = 0 := by rw [IntKind.wrap_u64]; omega
theorem ins0O_ok {H : Heap} {id : Nat} (Post : Value → Heap → Prop) (h : Post (.tuple #[]) H) :
    ACalls Try.prog 190 [lv 1 id 0 0, .int .i64 0, .int .i64 0] H Post := by
  refine acalls_vc (rs := []) Try.func190 rfl rfl Try.ntmps190 rfl rfl ?_
  simp (maxSteps := 1000000) [go_sem, w64_0O, w64_1O]
  refine AWp.loopVc (St := Unit) (fun _ => [(2, .int .i64 0), (6, .int .i64 1)]) (fun _ H' => H' = H) (fun _ => 0) () ?_ ?_ ?_
  · simp [upF, Fr.get, Up.refl]
  · rfl
  · rintro K _ H' rfl hK
    simp (maxSteps := 1000000) [go_sem, w64_0O, w64_1O]
    exact h
theorem pdq0O_ok {H : Heap} {id : Nat} {l : Int} (Post : Value → Heap → Prop) (h : Post (.tuple #[]) H) :
    ACalls Try.prog 183 [lv 1 id 0 0, .int .i64 0, .int .i64 0, .int .i64 l] H Post := by
  refine acalls_vc (rs := []) Try.func183 rfl rfl Try.ntmps183 rfl rfl ?_
  simp (maxSteps := 1000000) [go_sem, w64_0O, w64_1O]
  refine AWp.loopA (St := Unit) (fun _ => [(0, lv 1 id 0 0), (1, .int .i64 0), (2, .int .i64 0)]) (fun _ H' => H' = H) (fun _ => 0) () ?_ ?_ ?_
  · simp [upF, Fr.get, Up.refl]
  · rfl
  · rintro K _ H' rfl hK
    refine AWp.block ?_
    refine AWp.ofVc ?_
    simp (maxSteps := 1000000) [go_sem, w64_0O, w64_1O]
    refine AWp.ofVc ?_
    simp (maxSteps := 1000000) [go_sem, w64_0O, w64_1O]
    refine ins0O_ok _ ?_
    simp (maxSteps := 1000000) [go_sem, w64_0O, w64_1O]
    exact h

/-- slices.Sort: afterwards the same elements are there, ascending. -/
theorem sortFuncO_ok {H : Heap} {id n : Nat} {l : List Int} {lt : Int → Int → Bool} {Q : Int → Prop} (hS : SWO lt) (hA : OL 1 H id (l.flatMap cellsI) n) (hn : l.length = n) (hl : n ≤ 1048576) (hQ : ∀ x ∈ l, Q x)
    (hC : CmpO lt Q id H) (Post : Value → Heap → Prop)
    (h : ∀ (H' : Heap) (l' : List Int), Same (fun k => k = id) H H' → OL 1 H' id (l'.flatMap cellsI) n → l'.Perm l → l'.Pairwise (fun x y => lt y x = false) → Post (.tuple #[]) H') :
    ACalls Try.prog 161 [lv 1 id 0 n] H Post := by
  refine acalls_vc (rs := []) Try.func161 rfl rfl Try.ntmps161 rfl rfl ?_
  have w1 : IntKind.u64.wrap (n : Int) = n := by rw [IntKind.wrap_u64]; omega
  rcases hA.2 with ⟨h0, hg⟩ | hb
  · subst h0
    have hnil : l = [] := List.eq_nil_of_length_eq_zero hn
    subst hnil
    simp (maxSteps := 1000000) [go_sem, wu64_0O]
    refine bitsLenC_ok (x := 0) (by omega) _ ?_
    simp (maxSteps := 1000000) [go_sem]
    refine pdq0O_ok _ ?_
    simp (maxSteps := 1000000) [go_sem]
    exact h H [] (Same.refl _ _) hA (List.Perm.refl _) List.Pairwise.nil
  · have hA' : Arr cellsI H id l.toArray := by unfold Arr; simpa using hb
    have hQ' : QA Q l.toArray := by
      intro k hk
      rw [getElem!_pos l.toArray k hk]
      exact hQ _ (by simp)
    simp (maxSteps := 1000000) [go_sem, w1]
    refine bitsLenC_ok (by omega) _ ?_
    have hb64 : bitsLen n ≤ 64 := bitsLen_lt (by omega)
    simp (maxSteps := 1000000) [go_sem]
    refine pdqO_ok hS hl n (a := 0) (limit := bitsLen n) (by omega) hA' (by simpa using hn) (Nat.zero_le _) (Nat.le_refl _) hb64 (.inl rfl) hQ' hC _ ?_
    intro H' d' hS' hA2 hP hs
    have hsz : d'.size = n := by rw [hP.1]; simpa using hn
    have hp := perm_list (by simpa using hn) hP
    have fin := h H' d'.toList hS' ⟨by rw [flat_len cellsI_len, Array.length_toList, hsz], .inr hA2⟩ (by simpa using hp) (sorted_list hsz hs)
    simp (maxSteps := 1000000) [go_sem]
    exact fin

end Go.Proofs.Ytdfeoccjllljiaa
end

section
/- Contracts of the laws' own helpers over lists of numbers. They hold for every program that holds these functions. -/
set_option linter.all false
namespace Go.Proofs.Ytdfeoccjllljiaa
open Go.Ab

theorem eqInt64S_ok {H : Heap} {u v : Value} {xs ys : List Int} (hu : IntsAt H u xs) (hv : IntsAt H v ys) (Post : Value → Heap → Prop) (h : Post (.bool (decide (xs = ys))) H) :
    ACalls Try.prog 42 [u, v] H Post := by
  obtain ⟨i, o, rfl, h1, h2⟩ := hu
  obtain ⟨j, q, rfl, h3, h4⟩ := hv
  refine acalls_vc (rs := [.tmp 4]) Try.func42 rfl rfl Try.ntmps42 rfl rfl ?_
  simp (maxSteps := 1000000) [go_sem]
  refine condK_intro (fun hne => ?_) (fun heq => ?_)
  · have : xs ≠ ys := by rintro rfl; simp at hne
    simpa [this] using h
  · have hlen : xs.length = ys.length := by simp at heq; omega
    refine AWp.loopVc (fun s : Nat => [(0, lv 1 i o xs.length), (1, lv 1 j q ys.length), (5, .int .i64 s)]) (fun s H' => H' = H ∧ s ≤ xs.length ∧ xs.take s = ys.take s) (fun s => xs.length - s) 0 ?_ ?_ ?_
    · simp [upF, Fr.get, Up.refl]
    · simp
    · rintro K s H' ⟨rfl, hs, ht⟩ hK
      simp (maxSteps := 1000000) [go_sem]
      refine condK_intro (fun hlt => ?_) (fun hge => ?_)
      · have hlt : s < xs.length := by simpa using hlt
        have c1 := h1.cell (k := s) (v := .int .i64 xs[s]) (by simp [ints_get, hlt])
        have c2 := h3.cell (k := s) (v := .int .i64 (ys[s]'(by omega))) (by simp [ints_get, hlen ▸ hlt])
        have hw : IntKind.i64.wrap ((s : Int) + 1) = (s : Int) + 1 := i64w (by omega) (by omega)
        refine AWp.draw mixed [(0, false), (1, false), (2, false), (3, false), (4, false), (5, false), (6, false), (7, false), (8, false)] (by kernel_rfl) ?_
        simp (maxSteps := 1000000) [go_sem, hlt, hlen ▸ hlt, c1, c2, hw]
        refine condK_intro (fun hne => ?_) (fun heq => ?_)
        · have : xs ≠ ys := by rintro rfl; simp at hne
          simpa [this] using h
        · refine hK (s + 1) _ _ (by omega) (by simp [upF, Fr.get, Up.refl]) ⟨rfl, by omega, ?_⟩
          have he : xs[s] = ys[s]'(by omega) := by simpa using heq
          rw [List.take_succ_eq_append_getElem hlt, List.take_succ_eq_append_getElem (by omega), ht, he]
      · have : s = xs.length := by simp at hge; omega
        subst this
        rw [List.take_length, hlen, List.take_length] at ht
        simpa [ht] using h

theorem eqInt64SS_ok {H : Heap} {u v : Value} {xs ys : List (List Int)} (hu : IntssAt H u xs) (hv : IntssAt H v ys) (Post : Value → Heap → Prop) (h : Post (.bool (decide (xs = ys))) H) :
    ACalls Try.prog 39 [u, v] H Post := by
  obtain ⟨i, o, us, rfl, hul, h1, hu, h2⟩ := hu
  obtain ⟨j, q, vs, rfl, hvl, h3, hv, h4⟩ := hv
  refine acalls_vc (rs := [.tmp 4]) Try.func39 rfl rfl Try.ntmps39 rfl rfl ?_
  simp (maxSteps := 1000000) [go_sem]
  refine condK_intro (fun hne => ?_) (fun heq => ?_)
  · have : xs ≠ ys := by rintro rfl; simp at hne
    simpa [this] using h
  · have hlen : xs.length = ys.length := by simp at heq; omega
    refine AWp.loopVc (fun s : Nat => [(0, lv 1 i o xs.length), (1, lv 1 j q ys.length), (5, .int .i64 s)]) (fun s H' => H' = H ∧ s ≤ xs.length ∧ xs.take s = ys.take s) (fun s => xs.length - s) 0 ?_ ?_ ?_
    · simp [upF, Fr.get, Up.refl]
    · simp
    · rintro K s H' ⟨rfl, hs, ht⟩ hK
      simp (maxSteps := 1000000) [go_sem]
      refine condK_intro (fun hlt => ?_) (fun hge => ?_)
      · have hlt : s < xs.length := by simpa using hlt
        have c1 := h1.cell (k := s) (v := us[s]'(by omega)) (List.getElem?_eq_getElem _)
        have c2 := h3.cell (k := s) (v := vs[s]'(by omega)) (List.getElem?_eq_getElem _)
        have d1 := hu s _ xs[s] (List.getElem?_eq_getElem (by omega)) (List.getElem?_eq_getElem _)
        have d2 := hv s _ (ys[s]'(by omega)) (List.getElem?_eq_getElem (by omega)) (List.getElem?_eq_getElem _)
        have hw : IntKind.i64.wrap ((s : Int) + 1) = (s : Int) + 1 := i64w (by omega) (by omega)
        refine AWp.draw mixed [(0, false), (1, false), (2, false), (3, false), (4, false), (5, false), (6, false), (7, false), (8, false), (9, false)] (by kernel_rfl) ?_
        simp (maxSteps := 1000000) [go_sem, hlt, hlen ▸ hlt, c1, c2, hw]
        refine eqInt64S_ok d1 d2 _ ?_
        simp (maxSteps := 1000000) [go_sem, hlt, hlen ▸ hlt, c1, c2, hw]
        refine condK_intro (fun hne => ?_) (fun heq => ?_)
        · have : xs ≠ ys := by rintro rfl; simp at hne
          simpa [this] using h
        · refine hK (s + 1) _ _ (by omega) (by simp [upF, Fr.get, Up.refl]) ⟨rfl, by omega, ?_⟩
          have he : xs[s] = ys[s]'(by omega) := by simpa using heq
          rw [List.take_succ_eq_append_getElem hlt, List.take_succ_eq_append_getElem (by omega), ht, he]
      · have : s = xs.length := by simp at hge; omega
        subst this
        rw [List.take_length, hlen, List.take_length] at ht
        simpa [ht] using h

end Go.Proofs.Ytdfeoccjllljiaa
end

section
/- SquareOf, of the program and of the specification: what each computes. They hold for every number. -/
set_option linter.all false
set_option maxRecDepth 20000
namespace Go.Proofs.Ytdfeoccjllljiaa
open Go.Ab

theorem within_ok {H : Heap} {n lo hi : Int} (Post : Value → Heap → Prop) (h : Post (.bool (decide (lo ≤ n) && decide (n ≤ hi))) H) :
    ACalls Try.prog 93 [.int .i64 n, .int .i64 lo, .int .i64 hi] H Post := by
  refine acalls_vc (rs := [.tmp 6]) Try.func93 rfl rfl Try.ntmps93 rfl rfl ?_
  simp (maxSteps := 1000000) [go_sem]
  refine condK_intro (fun h1 => ?_) (fun h1 => ?_) <;> simp_all

end Go.Proofs.Ytdfeoccjllljiaa
end

section
/- Systems in plain terms: what is a good block, what comes before, what fits. No program is in sight here. -/
set_option linter.all false
namespace Go.Ab

def good (v : Int) (b : Bk) : Bool := decide (0 ≤ b.a) && decide (b.a < b.b) && decide (b.b < b.c) && decide (b.c < v)
def before (x y : Bk) : Bool := if x.a ≠ y.a then decide (x.a < y.a) else if x.b ≠ y.b then decide (x.b < y.b) else decide (x.c < y.c)
def eq01 (x y : Int) : Nat := if x = y then 1 else 0
def common (x y : Bk) : Nat := eq01 x.a y.a + eq01 x.a y.b + eq01 x.a y.c + (eq01 x.b y.a + eq01 x.b y.b + eq01 x.b y.c) + (eq01 x.c y.a + eq01 x.c y.b + eq01 x.c y.c)
/-- The numbers of a block by their place. -/
def Bk.nth (b : Bk) (i : Nat) : Int := if i = 0 then b.a else if i = 1 then b.b else b.c
/-- How many of the first pairs are equal: i rows and k more. -/
def cnt (x y : Bk) (i k : Nat) : Nat :=
  (if 0 < i then eq01 x.a y.a + eq01 x.a y.b + eq01 x.a y.c else 0) + (if 1 < i then eq01 x.b y.a + eq01 x.b y.b + eq01 x.b y.c else 0) + (if 2 < i then eq01 x.c y.a + eq01 x.c y.b + eq01 x.c y.c else 0) +
  ((if 0 < k then eq01 (x.nth i) y.a else 0) + (if 1 < k then eq01 (x.nth i) y.b else 0) + (if 2 < k then eq01 (x.nth i) y.c else 0))

/-- The first n blocks fit, each with those ahead of it. -/
def Fits (bs : List Bk) : Prop := ∀ (i k : Nat) (x y : Bk), k < i → bs[i]? = some x → bs[k]? = some y → common x y ≤ 1
/-- Each block is good and comes behind the one ahead of it. -/
def Sorted (v : Int) (bs : List Bk) : Prop := ∀ (i : Nat) (x : Bk), bs[i]? = some x → good v x = true ∧ ∀ y, 0 < i → bs[i - 1]? = some y → before y x = true
def IsSys (p : Int) (bs : List Bk) : Prop := (3 ≤ p ∧ p ≤ 15) ∧ bs.length ≤ 35 ∧ Sorted p bs ∧ Fits bs

/-- A list is strictly ascending, from 0 to below n. -/
def Rises (n : Int) (xs : List Int) : Prop := ∀ (a : Nat) (x : Int), xs[a]? = some x → (0 ≤ x ∧ x < n) ∧ ∀ y, 0 < a → xs[a - 1]? = some y → y < x

theorem rises_block (v : Int) (b : Bk) : Rises v [b.a, b.b, b.c] ↔ good v b = true := by
  simp only [good, Bool.and_eq_true, decide_eq_true_eq]
  constructor
  · intro h
    have h0 := h 0 b.a rfl
    have h1 := h 1 b.b rfl
    have h2 := h 2 b.c rfl
    have := h1.2 b.a (by omega) rfl
    have := h2.2 b.b (by omega) rfl
    omega
  · intro h a x hx
    match a, hx with
    | 0, hx => simp at hx; subst hx; exact ⟨by omega, by omega⟩
    | 1, hx => simp at hx; subst hx; exact ⟨by omega, fun y _ hy => by simp at hy; omega⟩
    | 2, hx => simp at hx; subst hx; exact ⟨by omega, fun y _ hy => by simp at hy; omega⟩
    | a + 3, hx => simp at hx

/-- How two lists compare. -/
def lexC : List Int → List Int → Int
  | [], [] => 0
  | [], _ :: _ => -1
  | _ :: _, [] => 1
  | x :: xs, y :: ys => if x < y then -1 else if y < x then 1 else lexC xs ys

end Go.Ab
end

section
/- What the program's functions on systems compute. -/
set_option linter.all false
set_option maxRecDepth 20000
namespace Go.Proofs.Ytdfeoccjllljiaa
open Go.Ab

theorem rises_ok {H : Heap} {u : Value} {xs : List Int} {n : Int} (hu : IntsAt H u xs) (hn : -9223372036854775807 ≤ n) (hn' : n ≤ 9223372036854775807) (Post : Value → Heap → Prop) (h : ∀ b : Bool, (b = true ↔ Rises n xs) → Post (.bool b) H) :
    ACalls Try.prog 162 [u, .int .i64 n] H Post := by
  obtain ⟨i, o, rfl, h1, h2⟩ := hu
  refine acalls_vc (rs := [.tmp 4]) Try.func162 rfl rfl Try.ntmps162 rfl rfl ?_
  simp (maxSteps := 1000000) [go_sem]
  refine AWp.loopVc (fun s : Nat => [(0, lv 1 i o xs.length), (1, .int .i64 n), (7, lv 1 i o xs.length), (8, .int .i64 xs.length), (9, .int .i64 s)])
    (fun s H' => s ≤ xs.length ∧ H' = H ∧ ∀ (a : Nat) (x : Int), a < s → xs[a]? = some x → (0 ≤ x ∧ x < n) ∧ ∀ y, 0 < a → xs[a - 1]? = some y → y < x) (fun s => xs.length - s) 0 ?_ ?_ ?_
  · simp [upF, Fr.get, Up.refl]
  · exact ⟨by omega, rfl, by intro a x ha; omega⟩
  · rintro K s H' ⟨hs, rfl, hf⟩ hK
    by_cases hlt : s < xs.length
    · have hx : xs[s]? = some xs[s] := List.getElem?_eq_getElem hlt
      have c1 := h1.cell (k := s) (v := .int .i64 xs[s]) (by simp [ints_get, hlt])
      have hw : IntKind.i64.wrap ((s : Int) + 1) = (s : Int) + 1 := i64w (by omega) (by omega)
      have hwn : IntKind.i64.wrap (n - 1) = n - 1 := i64w (by omega) (by omega)
      simp (maxSteps := 1000000) [go_sem, hlt, c1, hwn]
      refine within_ok _ ?_
      by_cases hin : 0 ≤ xs[s] ∧ xs[s] ≤ n - 1
      · by_cases h0 : s = 0
        · subst h0
          simp (maxSteps := 1000000) [go_sem, hin.1, hin.2, i64w (n := 1)]
          refine hK 1 _ _ (by omega) (by simp [upF, Fr.get, Up.refl]) ⟨by omega, rfl, fun a x ha hx' => ?_⟩
          obtain rfl : a = 0 := by omega
          rw [hx] at hx'; cases hx'
          exact ⟨by omega, by omega⟩
        · obtain ⟨r, rfl⟩ : ∃ r, s = r + 1 := ⟨s - 1, by omega⟩
          have hxr : xs[r]? = some (xs[r]'(by omega)) := List.getElem?_eq_getElem _
          have c2 := h1.cell (k := r) (v := .int .i64 (xs[r]'(by omega))) (by simp [ints_get, hxr])
          have hr : r < xs.length := by omega
          have hw3 : IntKind.i64.wrap (r : Int) = (r : Int) := i64w (by omega) (by omega)
          have hw4 : IntKind.i64.wrap ((r : Int) + 1 + 1) = (r : Int) + 1 + 1 := i64w (by omega) (by omega)
          simp (maxSteps := 1000000) [go_sem, hin.1, hin.2, hw3, hr, c2, hw4]
          refine condK_intro (fun hge => ?_) (fun hlt' => ?_)
          · refine h false ⟨by simp, fun hR => ?_⟩
            have := (hR (r + 1) _ hx).2 _ (by omega) hxr
            simp at hge; omega
          · refine hK (r + 1 + 1) _ _ (by omega) (by simp [upF, Fr.get, Up.refl]) ⟨by omega, rfl, fun a x ha hx' => ?_⟩
            by_cases har : a = r + 1
            · subst har
              rw [hx] at hx'; cases hx'
              refine ⟨by omega, fun y _ hy => ?_⟩
              simp only [Nat.add_sub_cancel] at hy
              rw [hxr] at hy; cases hy
              simpa using hlt'
            · exact hf a x (by omega) hx'
      · have hnin : (decide (0 ≤ xs[s]) && decide (xs[s] ≤ n - 1)) = false := by simp; omega
        rw [hnin]
        simp (maxSteps := 1000000) [go_sem]
        refine h false ⟨by simp, fun hR => ?_⟩
        have := (hR s _ hx).1
        omega
    · have : s = xs.length := by omega
      subst this
      simp (maxSteps := 1000000) [go_sem]
      exact h true ⟨fun _ a x hx => hf a x (List.getElem?_eq_some_iff.1 hx).1 hx, fun _ => rfl⟩

theorem isNaN_ok {H : Heap} {x : Int} (Post : Value → Heap → Prop) (h : Post (.bool false) H) :
    ACalls Try.prog 188 [.int .i64 x] H Post := by
  refine acalls_vc (rs := [.tmp 2]) Try.func188 rfl rfl Try.ntmps188 rfl rfl ?_
  simp (maxSteps := 1000000) [go_sem]
  exact h

theorem cmpCompare_ok {H : Heap} {x y : Int} (Post : Value → Heap → Prop) (h : Post (.int .i64 (if x < y then -1 else if y < x then 1 else 0)) H) :
    ACalls Try.prog 177 [.int .i64 x, .int .i64 y] H Post := by
  refine acalls_vc (rs := [.tmp 4]) Try.func177 rfl rfl Try.ntmps177 rfl rfl ?_
  simp (maxSteps := 1000000) [go_sem]
  refine isNaN_ok _ ?_
  simp (maxSteps := 1000000) [go_sem]
  refine isNaN_ok _ ?_
  simp (maxSteps := 1000000) [go_sem]
  refine condK_intro (fun h1 => ?_) (fun h1 => ?_)
  · rw [if_pos (by simpa using h1)] at h; exact h
  · rw [if_neg (by simpa using h1)] at h
    refine condK_intro (fun h2 => ?_) (fun h2 => ?_)
    · rw [if_pos (by simpa using h2)] at h; exact h
    · rw [if_neg (by simpa using h2)] at h; exact h

theorem slicesCompare_ok {H : Heap} {u v : Value} {xs ys : List Int} (hu : IntsAt H u xs) (hv : IntsAt H v ys) (Post : Value → Heap → Prop) (h : Post (.int .i64 (lexC xs ys)) H) :
    ACalls Try.prog 149 [u, v] H Post := by
  obtain ⟨i, o, rfl, h1, h2⟩ := hu
  obtain ⟨j, q, rfl, h3, h4⟩ := hv
  refine acalls_vc (rs := [.tmp 4]) Try.func149 rfl rfl Try.ntmps149 rfl rfl ?_
  simp (maxSteps := 1000000) [go_sem]
  refine AWp.loopVc (fun s : Nat => [(0, lv 1 i o xs.length), (1, lv 1 j q ys.length), (9, lv 1 i o xs.length), (10, .int .i64 xs.length), (11, .int .i64 s)])
    (fun s H' => s ≤ xs.length ∧ s ≤ ys.length ∧ H' = H ∧ lexC xs ys = lexC (xs.drop s) (ys.drop s)) (fun s => xs.length - s) 0 ?_ ?_ ?_
  · simp [upF, Fr.get, Up.refl]
  · exact ⟨by omega, by omega, rfl, by simp⟩
  · rintro K s H' ⟨hs, hs', rfl, hf⟩ hK
    by_cases hlt : s < xs.length
    · have hdx : xs.drop s = xs[s] :: xs.drop (s + 1) := List.drop_eq_getElem_cons hlt
      have c1 := h1.cell (k := s) (v := .int .i64 xs[s]) (by simp [ints_get, hlt])
      have hw : IntKind.i64.wrap ((s : Int) + 1) = (s : Int) + 1 := i64w (by omega) (by omega)
      by_cases hly : s < ys.length
      · have hdy : ys.drop s = ys[s] :: ys.drop (s + 1) := List.drop_eq_getElem_cons hly
        have c2 := h3.cell (k := s) (v := .int .i64 ys[s]) (by simp [ints_get, hly])
        have hly' : ¬ ys.length ≤ s := by omega
        simp (maxSteps := 1000000) [go_sem, hlt, hly, hly', c1, c2]
        refine cmpCompare_ok _ ?_
        rw [hdx, hdy] at hf
        simp only [lexC] at hf
        by_cases hxy : xs[s] < ys[s]
        · rw [if_pos hxy] at hf ⊢
          simp (maxSteps := 1000000) [go_sem]
          rw [hf] at h; exact h
        · rw [if_neg hxy] at hf ⊢
          by_cases hyx : ys[s] < xs[s]
          · rw [if_pos hyx] at hf ⊢
            simp (maxSteps := 1000000) [go_sem]
            rw [hf] at h; exact h
          · rw [if_neg hyx] at hf ⊢
            simp (maxSteps := 1000000) [go_sem, hw]
            exact hK (s + 1) _ _ (by omega) (by simp [upF, Fr.get, Up.refl]) ⟨by omega, by omega, rfl, hf⟩
      · have hly' : ys.length ≤ s := by omega
        simp (maxSteps := 1000000) [go_sem, hlt, hly', c1]
        rw [hdx, List.drop_eq_nil_of_le hly'] at hf
        simp only [lexC] at hf
        rw [hf] at h; exact h
    · have : s = xs.length := by omega
      subst this
      simp (maxSteps := 1000000) [go_sem]
      rw [List.drop_eq_nil_of_le (Nat.le_refl _)] at hf
      refine condK_intro (fun hl => ?_) (fun hl => ?_)
      · have hl : xs.length < ys.length := by simpa using hl
        rw [List.drop_eq_getElem_cons hl] at hf
        simp only [lexC] at hf
        rw [hf] at h; exact h
      · have hl : ys.length ≤ xs.length := by simpa using hl
        rw [List.drop_eq_nil_of_le hl] at hf
        simp only [lexC] at hf
        rw [hf] at h; exact h

end Go.Proofs.Ytdfeoccjllljiaa
end

section
/- The grid of third points in plain terms: what its entries are, and when a block fits. No program is in sight here. -/
set_option linter.all false
namespace Go.Ab

/-- A block has a point. -/
def Bk.has (b : Bk) (p : Int) : Bool := decide (b.a = p) || (decide (b.b = p) || decide (b.c = p))
/-- The third point of two, and -1 if there is none. -/
def third (bs : List Bk) (p q : Int) : Int :=
  match bs.find? (fun c => c.has p && c.has q) with
  | some c => c.a + c.b + c.c - p - q
  | none => -1

theorem good_iff {v : Int} {b : Bk} : good v b = true ↔ 0 ≤ b.a ∧ b.a < b.b ∧ b.b < b.c ∧ b.c < v := by
  simp only [good, Bool.and_eq_true, decide_eq_true_eq, and_assoc]

end Go.Ab
end

section
/- The grid of third points: what the program's functions on it compute. -/
set_option linter.all false
set_option maxRecDepth 20000
namespace Go.Proofs.Ytdfeoccjllljiaa
open Go.Ab

/-- The grid behind an id. -/
def GridAt (H : Heap) (id : Nat) (gs : List Int) : Prop := H[id]? = some ⟨ints gs, true, true⟩ ∧ gs.length = 225

theorem GridAt.load {H : Heap} {id : Nat} {gs : List Int} (h : GridAt H id gs) {k : Nat} (hk : k < 225) : cellsAt H id k 1 = some [.int .i64 (gs.getD k 0)] := by
  refine Holds.cell ⟨true, h.1⟩ ?_
  have := h.2
  rw [ints_get, List.getD_eq_getElem?_getD, List.getElem?_eq_getElem (by omega)]
  rfl

theorem GridAt.store {H : Heap} {id : Nat} {gs : List Int} (h : GridAt H id gs) {k : Nat} (hk : k < 225) (n : Int) :
    storeAt H id k [.int .i64 n] = some (H.set id ⟨ints (gs.set k n), true, true⟩) ∧ GridAt (H.set id ⟨ints (gs.set k n), true, true⟩) id (gs.set k n) := by
  have hl := h.2
  refine ⟨?_, by rw [List.getElem?_set_self (List.getElem?_eq_some_iff.1 h.1).1], by simpa using hl⟩
  rw [storeAt_of h.1 rfl rfl (by simp only [ints_length, List.length_singleton]; omega) (by simp [Value.oneCell']), over_one (by simp only [ints_length]; omega), ints_set]

end Go.Proofs.Ytdfeoccjllljiaa
end

section
/- The grid of a list of blocks; the program's test for systems. -/
set_option linter.all false
set_option maxRecDepth 20000
namespace Go.Proofs.Ytdfeoccjllljiaa
open Go.Ab

theorem GridAt.keep {H H' : Heap} {id : Nat} {gs : List Int} (h : GridAt H id gs) (hp : H <+: H') : GridAt H' id gs :=
  ⟨Same.get (S := fun _ => False) (Same.of_prefix hp) h.1 (fun h => h), h.2⟩

end Go.Proofs.Ytdfeoccjllljiaa
end

section
/- The law on SquareOf, in abstract terms: its code returns true. It holds for every number. -/
set_option linter.all false
set_option maxRecDepth 20000
namespace Go.Proofs.Ytdfeoccjllljiaa
open Go.Ab

/-- An argument: a number. -/
def shInt : Shape := ⟨2, false, cInt .i64⟩
theorem fits_shInt {D : Type} {enc : TypeId × Value → D} (W : World) : shInt.fits enc Try.prog W :=
  ⟨cInt_stable _, open_cInt Try.underlying2, by show (match Try.prog.underlying 2 with | _ => _); rw [Try.underlying2]; rfl⟩
theorem says_shInt {H : Heap} {v : Value} (h : shInt.says H v) : ∃ n : Int, v = .int .i64 n ∧ (Lit.int .i64 n).wf = true := by
  obtain ⟨n, h1, h2⟩ := h
  simp only [List.cons.injEq, and_true] at h1
  exact ⟨n, h1, h2⟩

end Go.Proofs.Ytdfeoccjllljiaa
end

section
/- The arguments' shapes: numbers, lists, systems. It holds for every program that has these types. -/
set_option linter.all false
set_option maxRecDepth 20000
namespace Go.Proofs.Ytdfeoccjllljiaa
open Go.Ab

/-- A number that 64 bits hold. -/
def In64 (n : Int) : Prop := -9223372036854775808 ≤ n ∧ n ≤ 9223372036854775807
theorem In64.of_wf {n : Int} (h : (Lit.int .i64 n).wf = true) : In64 n := by
  simp only [Lit.wf, Bool.and_eq_true, decide_eq_true_eq] at h
  have h1 : IntKind.i64.min = -9223372036854775808 := rfl
  have h2 : IntKind.i64.max = 9223372036854775807 := rfl
  rw [h1, h2] at h
  exact h
theorem says_shInt' {H : Heap} {v : Value} (h : shInt.says H v) : ∃ n : Int, v = .int .i64 n ∧ In64 n := by
  obtain ⟨n, h1, h2⟩ := says_shInt h
  exact ⟨n, h1, In64.of_wf h2⟩

/-- As IntsAt, but the length is only what 64 bits hold. -/
def IntsAt0 (H : Heap) (v : Value) (xs : List Int) : Prop := ∃ i o, v = lv 1 i o xs.length ∧ At H i o (ints xs) ∧ xs.length ≤ 9223372036854775807
theorem IntsAt0.at {H : Heap} {v : Value} {xs : List Int} (h : IntsAt0 H v xs) (hl : xs.length ≤ 140737488355328) : IntsAt H v xs := by
  obtain ⟨i, o, h1, h2, _⟩ := h; exact ⟨i, o, h1, h2, hl⟩
theorem IntsAt0.pre {H H' : Heap} (hp : H <+: H') {v : Value} {xs : List Int} (h : IntsAt0 H v xs) : IntsAt0 H' v xs := by
  obtain ⟨i, o, h1, h2, h3⟩ := h; exact ⟨i, o, h1, h2.pre hp, h3⟩
def BlocksAt0 (H : Heap) (v : Value) (bs : List Bk) : Prop := ∃ i o, v = lv 3 i o bs.length ∧ At H i o (tri bs) ∧ bs.length ≤ 9223372036854775807
theorem BlocksAt0.at {H : Heap} {v : Value} {bs : List Bk} (h : BlocksAt0 H v bs) (hl : bs.length ≤ 140737488355328) : BlocksAt H v bs := by
  obtain ⟨i, o, h1, h2, _⟩ := h; exact ⟨i, o, h1, h2, hl⟩
theorem BlocksAt0.pre {H H' : Heap} (hp : H <+: H') {v : Value} {bs : List Bk} (h : BlocksAt0 H v bs) : BlocksAt0 H' v bs := by
  obtain ⟨i, o, h1, h2, h3⟩ := h; exact ⟨i, o, h1, h2.pre hp, h3⟩
def IntssAt0 (H : Heap) (v : Value) (xss : List (List Int)) : Prop :=
  ∃ i o vs, v = lv 1 i o xss.length ∧ vs.length = xss.length ∧ At H i o vs ∧ (∀ (k : Nat) (v : Value) (xs : List Int), vs[k]? = some v → xss[k]? = some xs → IntsAt0 H v xs) ∧ xss.length ≤ 9223372036854775807
theorem IntssAt0.at {H : Heap} {v : Value} {xss : List (List Int)} (h : IntssAt0 H v xss) (hl : xss.length ≤ 140737488355328) (hls : ∀ xs ∈ xss, xs.length ≤ 140737488355328) : IntssAt H v xss := by
  obtain ⟨i, o, vs, h1, h2, h3, h4, _⟩ := h
  exact ⟨i, o, vs, h1, h2, h3, fun k v xs hv hx => (h4 k v xs hv hx).at (hls xs (List.mem_of_getElem? hx)), hl⟩
theorem IntssAt0.pre {H H' : Heap} (hp : H <+: H') {v : Value} {xss : List (List Int)} (h : IntssAt0 H v xss) : IntssAt0 H' v xss := by
  obtain ⟨i, o, vs, h1, h2, h3, h4, h5⟩ := h
  exact ⟨i, o, vs, h1, h2, h3.pre hp, fun k v xs hv hx => (h4 k v xs hv hx).pre hp, h5⟩

/-- Cells that are numbers, one by one. -/
theorem ints_of_many {H : Heap} : ∀ {es : List (List Value)}, (∀ e ∈ es, cInt .i64 H e ∧ e.length = 1) → ∃ xs : List Int, es.flatten = ints xs ∧ xs.length = es.length ∧ ∀ x ∈ xs, In64 x
  | [], _ => ⟨[], rfl, rfl, by simp⟩
  | e :: es, h => by
    obtain ⟨xs, h1, h2, h3⟩ := ints_of_many (es := es) fun e he => h e (List.mem_cons_of_mem _ he)
    obtain ⟨⟨n, hn, hw⟩, _⟩ := h e List.mem_cons_self
    refine ⟨n :: xs, by simp [hn, h1, ints], by simp [h2], ?_⟩
    intro x hx
    rcases List.mem_cons.1 hx with rfl | hx
    · exact In64.of_wf hw
    · exact h3 x hx

theorem says_ints {H : Heap} {v : Value} (h : cSl 1 (cInt .i64) H [v]) : ∃ xs, IntsAt0 H v xs ∧ ∀ x ∈ xs, In64 x := by
  obtain ⟨id, es, h1, h2, h3, h4⟩ := h
  obtain ⟨xs, h5, h6, h7⟩ := ints_of_many h3
  simp only [List.cons.injEq, and_true] at h1
  refine ⟨xs, ⟨id, 0, by rw [h1, h6], ?_, by rw [h6]; exact h4⟩, h7⟩
  rcases h2 with rfl | h2
  · left; rw [← h5]; rfl
  · right; rw [← h5, show es.flatten.length = es.length * 1 by rw [h5, ints_length, h6]; omega]; exact h2
def shIntss : Shape := ⟨51, false, cSl 1 (cSl 1 (cInt .i64))⟩
theorem fits_shIntss {D : Type} {enc : TypeId × Value → D} (W : World) : shIntss.fits enc Try.prog W :=
  ⟨cSl_stable (cSl_stable (cInt_stable _)), open_cSl Try.underlying51 (by kernel_rfl) (by omega) (cSl_stable (cInt_stable _)) (open_cSl Try.underlying56 (by kernel_rfl) (by omega) (cInt_stable _) (open_cInt Try.underlying2)), by show (match Try.prog.underlying 51 with | _ => _); rw [Try.underlying51]; rfl⟩
theorem intss_of_many {H : Heap} : ∀ {es : List (List Value)}, (∀ e ∈ es, cSl 1 (cInt .i64) H e ∧ e.length = 1) → ∃ (vs : List Value) (xss : List (List Int)), es.flatten = vs ∧ vs.length = es.length ∧ xss.length = es.length ∧ (∀ (k : Nat) (v : Value) (xs : List Int), vs[k]? = some v → xss[k]? = some xs → IntsAt0 H v xs) ∧ ∀ xs ∈ xss, ∀ x ∈ xs, In64 x
  | [], _ => ⟨[], [], rfl, rfl, rfl, by simp, by simp⟩
  | e :: es, h => by
    obtain ⟨vs, xss, h1, h2, h3, h4, h5⟩ := intss_of_many (es := es) fun e he => h e (List.mem_cons_of_mem _ he)
    obtain ⟨hc, hl⟩ := h e List.mem_cons_self
    obtain ⟨v, rfl⟩ : ∃ v, e = [v] := by
      match e, hl with
      | [v], _ => exact ⟨v, rfl⟩
    obtain ⟨xs, h6, h7⟩ := says_ints hc
    refine ⟨v :: vs, xs :: xss, by simp [h1], by simp [h2], by simp [h3], ?_, ?_⟩
    · intro k u ys hu hy
      cases k with
      | zero => simp at hu hy; subst hu; subst hy; exact h6
      | succ k => exact h4 k u ys (by simpa using hu) (by simpa using hy)
    · intro ys hy
      rcases List.mem_cons.1 hy with rfl | hy
      · exact h7
      · exact h5 ys hy
theorem says_shIntss {H : Heap} {v : Value} (h : shIntss.says H v) : ∃ xss, IntssAt0 H v xss ∧ ∀ xs ∈ xss, ∀ x ∈ xs, In64 x := by
  obtain ⟨id, es, h1, h2, h3, h4⟩ := h
  obtain ⟨vs, xss, h5, h6, h7, h8, h9⟩ := intss_of_many h3
  simp only [List.cons.injEq, and_true] at h1
  refine ⟨xss, ⟨id, 0, vs, by rw [h1, h7], by omega, ?_, h8, by rw [h7]; exact h4⟩, h9⟩
  rcases h2 with rfl | h2
  · left; rw [← h5]; rfl
  · right; rw [← h5, show es.flatten.length = es.length * 1 by rw [h5, h6]; omega]; exact h2

theorem szInt64S0_ok {H : Heap} {u : Value} {xs : List Int} {k : Int} (hu : IntsAt0 H u xs) (hk0 : 0 ≤ k) (hk : k ≤ 1048576) (Post : Value → Heap → Prop) (h : Post (.int .i64 (if k < xs.length then -1 else k - xs.length)) H) :
    ACalls Try.prog 91 [u, .int .i64 k] H Post := by
  obtain ⟨i, o, rfl, h1, h2⟩ := hu
  refine acalls_vc (rs := [.tmp 4]) Try.func91 rfl rfl Try.ntmps91 rfl rfl ?_
  have hw : IntKind.i64.wrap (k - xs.length) = k - xs.length := i64w (by omega) (by omega)
  simp (maxSteps := 1000000) [go_sem, hw]
  refine condK_intro (fun h1 => ?_) (fun h1 => ?_)
  · rw [if_pos (by simp at h1; omega)] at h; exact h
  · rw [if_neg (by simp at h1; omega)] at h; exact h

end Go.Proofs.Ytdfeoccjllljiaa
end

section
/- Contracts of the laws' own helpers: copies of lists of numbers, marks over blocks and systems. -/
set_option linter.all false
set_option maxRecDepth 20000
namespace Go.Proofs.Ytdfeoccjllljiaa
open Go.Ab

/-- A slice of numbers that the call holds alone. -/
def OwnInts (H : Heap) (v : Value) (id : Nat) (xs : List Int) : Prop := v = lv 1 id 0 xs.length ∧ (xs = [] ∨ H[id]? = some ⟨ints xs, true, true⟩) ∧ xs.length ≤ 140737488355328
theorem OwnInts.read {H : Heap} {v : Value} {id : Nat} {xs : List Int} (h : OwnInts H v id xs) : IntsAt H v xs := by
  obtain ⟨h1, h2, h3⟩ := h
  refine ⟨id, 0, h1, ?_, h3⟩
  rcases h2 with rfl | h2
  · exact .inl rfl
  · exact Holds.at ⟨true, h2⟩
theorem OwnInts.keep {H H' : Heap} {v : Value} {id : Nat} {xs : List Int} (h : OwnInts H v id xs) {S : Nat → Prop} (hs : Same S H H') (hi : ¬ S id) : OwnInts H' v id xs :=
  ⟨h.1, h.2.1.imp (fun h => h) fun hb => hs.get hb hi, h.2.2⟩
theorem OwnInts.pre {H H' : Heap} (hp : H <+: H') {v : Value} {id : Nat} {xs : List Int} (h : OwnInts H v id xs) : OwnInts H' v id xs := h.keep (S := fun _ => False) (Same.of_prefix hp) (fun h => h)
theorem OwnInts.of_ol {H : Heap} {id : Nat} {xs : List Int} (h : OL 1 H id (ints xs) xs.length) (hl : xs.length ≤ 140737488355328) : OwnInts H (lv 1 id 0 xs.length) id xs :=
  ⟨rfl, h.2.imp (fun h => List.eq_nil_of_length_eq_zero h.1) (fun h => h), hl⟩
theorem OwnInts.one {H : Heap} {v : Value} {id : Nat} {xs : List Int} (h : OwnInts H v id xs) : v.oneCell' = true := h.read.one
theorem _root_.Go.Ab.OwnBlocks.pre {H H' : Heap} (hp : H <+: H') {v : Value} {id : Nat} {bs : List Bk} (h : OwnBlocks H v id bs) : OwnBlocks H' v id bs := h.keep (S := fun _ => False) (Same.of_prefix hp) (fun h => h)
theorem _root_.Go.Ab.OwnBlocks.one {H : Heap} {v : Value} {id : Nat} {bs : List Bk} (h : OwnBlocks H v id bs) : v.oneCell' = true := h.read.one
theorem _root_.Go.Ab.OwnBlocks.of_ol {H : Heap} {id : Nat} {bs : List Bk} (h : OL 3 H id (tri bs) bs.length) (hl : bs.length ≤ 140737488355328) : OwnBlocks H (lv 3 id 0 bs.length) id bs :=
  ⟨rfl, h.2.imp (fun h => List.eq_nil_of_length_eq_zero h.1) (fun h => h), hl⟩
theorem _root_.Go.Ab.OwnBlocks.lt {H : Heap} {v : Value} {id : Nat} {bs : List Bk} (h : OwnBlocks H v id bs) : bs = [] ∨ id < H.length := h.2.1.imp (fun h => h) fun h => (List.getElem?_eq_some_iff.1 h).1

theorem _root_.Go.Ab.Holds.keepS {H H' : Heap} {i : Nat} {cs : List Value} (h : Holds H i cs) {S : Nat → Prop} (hs : Same S H H') (hi : ¬ S i) : Holds H' i cs := by
  obtain ⟨o, h⟩ := h; exact ⟨o, hs.get h hi⟩
theorem _root_.Go.Ab.Holds.last (H : Heap) (cs : List Value) : Holds (H ++ [⟨cs, true, true⟩]) H.length cs := ⟨true, by simp⟩

theorem toInt64S_ok {H : Heap} {u : Value} {xs : List Int} (hu : IntsAt H u xs) (Post : Value → Heap → Prop) (hb : xs.length ≤ 1048576) (h : ∀ H' v id, H <+: H' → H.length ≤ id → OwnInts H' v id xs → Post v H') :
    ACalls Try.prog 64 [u] H Post := by
  obtain ⟨i, o, rfl, h1, h2⟩ := hu
  refine ACalls.res ?_
  refine acalls_vc (rs := [.tmp 2]) Try.func64 rfl rfl Try.ntmps64 rfl rfl ?_
  have hm : ∀ n, (madeCells #[Value.int .i64 0] n).toList = ints (List.replicate n 0) := by
    intro n
    rw [made_same (v := .int .i64 0) (by simp) (by intro i hi; simp at hi; subst hi; rfl)]
    simp [ints]
  simp (maxSteps := 1000000) [go_sem, hm]
  refine andK_intro (by omega) ?_
  refine AWp.loopVc (fun s : Nat => [(0, lv 1 i o xs.length), (3, .slice (some ⟨H.length, 0, none⟩) xs.length xs.length), (4, .int .i64 s)])
    (fun s H' => s ≤ xs.length ∧ H <+: H' ∧ H'[H.length]? = some ⟨ints (xs.take s ++ List.replicate (xs.length - s) 0), true, true⟩) (fun s => xs.length - s) 0 ?_ ?_ ?_
  · simp [upF, Fr.get, Up.refl]
  · refine ⟨by omega, List.prefix_append _ _, by simp⟩
  · rintro K s H' ⟨hs, hp, hc⟩ hK
    by_cases hlt : s < xs.length
    · have c1 := (h1.pre hp).cell (k := s) (v := .int .i64 xs[s]) (by simp [ints_get, hlt])
      have hw_s : IntKind.i64.wrap ((s : Int) + 1) = (s : Int) + 1 := i64w (by omega) (by omega)
      have hlt2 : H.length < H'.length := (List.getElem?_eq_some_iff.1 hc).1
      have hst : storeAt H' H.length s [.int .i64 xs[s]] = some (H'.set H.length ⟨ints (xs.take (s + 1) ++ List.replicate (xs.length - (s + 1)) 0), true, true⟩) := by
        rw [storeAt_of hc rfl rfl (by simp only [ints_length, List.length_append, List.length_take, List.length_replicate, List.length_singleton]; omega) (by simp [Value.oneCell']), over_one (by simp only [ints_length, List.length_append, List.length_take, List.length_replicate]; omega), ints_set]
        congr 4
        rw [List.set_append_right _ _ (by simp; omega), List.length_take, Nat.min_eq_left hs, Nat.sub_self, show xs.length - s = (xs.length - (s + 1)) + 1 by omega, List.replicate_succ, List.set_cons_zero, List.take_succ_eq_append_getElem hlt, List.append_assoc]
        rfl
      simp (maxSteps := 1000000) [go_sem, hlt, c1, hst, hw_s]
      refine hK (s + 1) _ _ (by omega) (by simp [upF, Fr.get, Up.refl]) ⟨by omega, ?_, by rw [List.getElem?_set_self hlt2]⟩
      exact (show Same (fun j => j = H.length) H _ from (Same.of_prefix hp).trans Same.set).prefix (by omega)
    · have : s = xs.length := by omega
      subst this
      simp (maxSteps := 1000000) [go_sem]
      simp only [List.take_length, Nat.sub_self, List.replicate_zero, List.append_nil] at hc
      refine ⟨lv 1 H.length 0 xs.length, Up.ex (by omega) ?_, h H' _ H.length hp (Nat.le_refl _) ⟨rfl, .inr hc, by omega⟩⟩
      right
      rw [(Holds.cells ⟨true, hc⟩ (by rw [ints_length]; omega))]; rfl

end Go.Proofs.Ytdfeoccjllljiaa
end

section
/- The third point of two: both sides. -/
set_option linter.all false
set_option maxRecDepth 20000
namespace Go.Proofs.Ytdfeoccjllljiaa
open Go.Ab

theorem _root_.Go.Ab.IsSys.good {p : Int} {bs : List Bk} (h : IsSys p bs) : ∀ x ∈ bs, good p x = true := by
  intro x hx
  obtain ⟨k, hk⟩ := List.mem_iff_getElem?.1 hx
  exact (h.2.2.1 k x hk).1
end Go.Proofs.Ytdfeoccjllljiaa
end

section
/- Ranges of numbers, and lists that a loop builds up over them. No program is in sight here. -/
set_option linter.all false
namespace Go.Ab

/-- The numbers from lo to below hi. -/
def upTo (lo hi : Nat) : List Nat := List.range' lo (hi - lo)
theorem upTo_succ {lo k : Nat} (h : lo ≤ k) : upTo lo (k + 1) = upTo lo k ++ [k] := by
  unfold upTo
  rw [show k + 1 - lo = (k - lo) + 1 by omega, List.range'_concat]
  congr 2; omega
theorem upTo_self {lo k : Nat} (h : k ≤ lo) : upTo lo k = [] := by
  unfold upTo; rw [show k - lo = 0 by omega]; rfl
theorem upTo_length (lo hi : Nat) : (upTo lo hi).length = hi - lo := by simp [upTo]

/-- All blocks of v points, in order. -/
def trip2 (v a b : Nat) (hi : Nat) : List Bk := (upTo (b + 1) hi).map fun c : Nat => ⟨a, b, c⟩
def trip1 (v a : Nat) (hi : Nat) : List Bk := (upTo (a + 1) hi).flatMap fun b => trip2 v a b v
def trip0 (v : Nat) (hi : Nat) : List Bk := (upTo 0 hi).flatMap fun a => trip1 v a v
def triples (v : Nat) : List Bk := trip0 v v

end Go.Ab
end

section
/- Degrees: both sides. -/
set_option linter.all false
set_option maxRecDepth 20000
namespace Go.Ab

/-- A list that a call builds, behind the memory H. -/
def Bl (e : Nat) (H H' : Heap) (id : Nat) (cs : List Value) (n : Nat) : Prop := H <+: H' ∧ OL e H' id cs n ∧ H.length ≤ id
theorem Bl.ghost (e : Nat) (H : Heap) : Bl e H (H ++ [⟨[], false, false⟩]) H.length [] 0 := ⟨List.prefix_append _ _, OL.ghost e H, Nat.le_refl _⟩
theorem Bl.nil (e : Nat) (H : Heap) : Bl e H (H ++ [⟨[], true, true⟩]) H.length [] 0 := ⟨List.prefix_append _ _, ⟨by simp, .inr (by simp)⟩, Nat.le_refl _⟩
theorem Bl.pre {e : Nat} {H H' H'' : Heap} {id n : Nat} {cs : List Value} (h : Bl e H H' id cs n) (hp : H' <+: H'') : Bl e H H'' id cs n :=
  ⟨h.1.trans hp, h.2.1.keep (S := fun _ => False) (Same.of_prefix hp) (fun h => h), h.2.2⟩
theorem Bl.push {e : Nat} {H H' : Heap} {id n : Nat} {cs xs : List Value} (h : Bl e H H' id cs n) (he : 0 < e) (hx : xs.length = e) :
    cellsAt (H' ++ [⟨xs, true, true⟩]) H'.length 0 e = some xs ∧ ∃ H3, appendH (H' ++ [⟨xs, true, true⟩]) e (lv e id 0 n) 1 xs = some (lv e (H'.length + 1) 0 (n + 1), H3) ∧ Bl e H H3 (H'.length + 1) (cs ++ xs) (n + 1) := by
  obtain ⟨h1, H3, h2, h3, h4, h5⟩ := h.2.1.push he hx
  refine ⟨h1, H3, h2, ((Same.of_prefix h.1).trans h4).prefix (by have := h.2.2; omega), h3, ?_⟩
  have := h.1.length_le
  omega

end Go.Ab
namespace Go.Proofs.Ytdfeoccjllljiaa
open Go.Ab

end Go.Proofs.Ytdfeoccjllljiaa
end

section
/- Results that a call holds alone, told by the span of the blocks that they lie in; marks on them. -/
set_option linter.all false
set_option maxRecDepth 20000
namespace Go.Proofs.Ytdfeoccjllljiaa
open Go.Ab

/-- The blocks from a to below b. -/
def Span (a b : Nat) (j : Nat) : Prop := a ≤ j ∧ j < b

def IntsIn (a b : Nat) (H : Heap) (v : Value) (xs : List Int) : Prop := ∃ id, OwnInts H v id xs ∧ (xs ≠ [] → Span a b id)
def BlocksIn (a b : Nat) (H : Heap) (v : Value) (bs : List Bk) : Prop := ∃ id, OwnBlocks H v id bs ∧ (bs ≠ [] → Span a b id)
/-- A slice of numbers, marked from k on. -/
def MarkIn (e : Nat) (a b : Nat) (H : Heap) (v : Value) (k : Int) (n : Nat) : Prop := ∃ id, v = lv e id 0 n ∧ At H id 0 (ints (upFrom k (n * e))) ∧ n ≤ 140737488355328 ∧ (n ≠ 0 → Span a b id)

theorem OwnInts.inn {H H' : Heap} {v : Value} {id : Nat} {xs : List Int} (h : OwnInts H' v id xs) (hid : H.length ≤ id) : IntsIn H.length H'.length H' v xs :=
  ⟨id, h, fun hne => ⟨hid, (List.getElem?_eq_some_iff.1 (h.2.1.resolve_left hne)).1⟩⟩
theorem OwnBlocks.inn {H H' : Heap} {v : Value} {id : Nat} {bs : List Bk} (h : OwnBlocks H' v id bs) (hid : H.length ≤ id) : BlocksIn H.length H'.length H' v bs :=
  ⟨id, h, fun hne => ⟨hid, h.lt.resolve_left hne⟩⟩

theorem IntsIn.keep {a b : Nat} {H H' : Heap} {v : Value} {xs : List Int} (h : IntsIn a b H v xs) {S : Nat → Prop} (hs : Same S H H') (hd : ∀ j, Span a b j → ¬ S j) : IntsIn a b H' v xs := by
  obtain ⟨id, h1, h2⟩ := h
  by_cases hne : xs = []
  · subst hne; exact ⟨id, ⟨h1.1, .inl rfl, h1.2.2⟩, h2⟩
  · exact ⟨id, h1.keep hs (hd _ (h2 hne)), h2⟩
theorem BlocksIn.keep {a b : Nat} {H H' : Heap} {v : Value} {bs : List Bk} (h : BlocksIn a b H v bs) {S : Nat → Prop} (hs : Same S H H') (hd : ∀ j, Span a b j → ¬ S j) : BlocksIn a b H' v bs := by
  obtain ⟨id, h1, h2⟩ := h
  by_cases hne : bs = []
  · subst hne; exact ⟨id, ⟨h1.1, .inl rfl, h1.2.2⟩, h2⟩
  · exact ⟨id, OwnBlocks.keep h1 hs (hd _ (h2 hne)), h2⟩
theorem MarkIn.keep {e a b : Nat} {H H' : Heap} {v : Value} {k : Int} {n : Nat} (h : MarkIn e a b H v k n) {S : Nat → Prop} (hs : Same S H H') (hd : ∀ j, Span a b j → ¬ S j) : MarkIn e a b H' v k n := by
  obtain ⟨id, h1, h2, h3, h4⟩ := h
  refine ⟨id, h1, ?_, h3, h4⟩
  rcases h2 with h0 | h2
  · exact .inl h0
  · by_cases hn : n = 0
    · subst hn; left; simp [upFrom, ints]
    · right
      obtain ⟨blk, hb, hbl, hbn, he⟩ := cellsAt_inv h2
      rw [cellsAt_of (hs.get hb (hd _ (h4 hn))) hbl hbn, ← he]
theorem IntsIn.pre {a b : Nat} {H H' : Heap} (hp : H <+: H') {v : Value} {xs : List Int} (h : IntsIn a b H v xs) : IntsIn a b H' v xs := h.keep (S := fun _ => False) (Same.of_prefix hp) (fun _ _ h => h)
theorem BlocksIn.pre {a b : Nat} {H H' : Heap} (hp : H <+: H') {v : Value} {bs : List Bk} (h : BlocksIn a b H v bs) : BlocksIn a b H' v bs := h.keep (S := fun _ => False) (Same.of_prefix hp) (fun _ _ h => h)
theorem MarkIn.pre {e a b : Nat} {H H' : Heap} (hp : H <+: H') {v : Value} {k : Int} {n : Nat} (h : MarkIn e a b H v k n) : MarkIn e a b H' v k n := h.keep (S := fun _ => False) (Same.of_prefix hp) (fun _ _ h => h)
theorem IntsIn.read {a b : Nat} {H : Heap} {v : Value} {xs : List Int} (h : IntsIn a b H v xs) : IntsAt H v xs := by obtain ⟨id, h, _⟩ := h; exact h.read
theorem BlocksIn.read {a b : Nat} {H : Heap} {v : Value} {bs : List Bk} (h : BlocksIn a b H v bs) : BlocksAt H v bs := by obtain ⟨id, h, _⟩ := h; exact OwnBlocks.read h
theorem IntsIn.one {a b : Nat} {H : Heap} {v : Value} {xs : List Int} (h : IntsIn a b H v xs) : v.oneCell' = true := h.read.one
theorem BlocksIn.one {a b : Nat} {H : Heap} {v : Value} {bs : List Bk} (h : BlocksIn a b H v bs) : v.oneCell' = true := h.read.one
theorem IntsIn.nil (a b : Nat) (H : Heap) : IntsIn a b H (lv 1 0 0 0) [] := ⟨0, ⟨rfl, .inl rfl, by simp⟩, fun h => absurd rfl h⟩
theorem BlocksIn.nil (a b : Nat) (H : Heap) : BlocksIn a b H (lv 3 0 0 0) [] := ⟨0, ⟨rfl, .inl rfl, by simp⟩, fun h => absurd rfl h⟩
end Go.Proofs.Ytdfeoccjllljiaa
end

section
/- Common blocks: both sides. -/
set_option linter.all false
set_option maxRecDepth 20000
namespace Go.Proofs.Ytdfeoccjllljiaa
open Go.Ab

theorem infoInt : (Try.prog.info? 2).map (·.size) = some 1 := by kernel_rfl
theorem intsOf3 (a b c : Int) : intsOf .i64 [.int .i64 a, .int .i64 b, .int .i64 c] = some [a, b, c] := by simp [intsOf]
attribute [go_sem] infoInt intsOf3

theorem Bk.eq3 (b d : Bk) : b = d ↔ b.a = d.a ∧ b.b = d.b ∧ b.c = d.c := by
  obtain ⟨b1, b2, b3⟩ := b; obtain ⟨d1, d2, d3⟩ := d; simp

end Go.Proofs.Ytdfeoccjllljiaa
end

section
/- Regions whose order is open, where old blocks alone are read: what stands from L on may be changed. No statement of the seat is proved here; it holds for every program. -/
set_option linter.all false
namespace Go.Ab
open Go.RowKit (Below)

/-- The block that a value leads to. -/
def blkOf : Value → Option Nat
  | .pointer (some ⟨i, _, _⟩) => some i
  | .slice (some ⟨i, _, _⟩) _ _ => some i
  | _ => none
/-- The block that an operation may read. -/
def rdBlk (o : Op) (fr : Fr) : Option Nat :=
  match o with
  | .load _ x => (ev fr x).bind blkOf
  | .convert _ _ x => (ev fr x).bind blkOf
  | .slice _ x _ _ _ => (ev fr x).bind blkOf
  | _ => none
def offL (L : Nat) (o : Op) (fr : Fr) : Prop := ∀ i, rdBlk o fr = some i → i < L
/-- The blocks ahead of L stay. -/
def KeepL (L : Nat) (H h : Heap) : Prop := ∀ i, i < L → h[i]? = H[i]?

section
variable {P : Program} {N : Nat} {o : Oper} {fr fr' : Fr} {H : Heap} {K : Fr → Heap → Prop}

end

def eKX (L : Nat) (fl : Bool) (H : Heap) (k : Fr → Heap → Prop) (f : Fr) (h : Heap) : Prop :=
  match fl with
  | true => andK (KeepL L H h) (k f h)
  | false => k f h

def vEX (P : Program) (N : Nat) (ops : Array Oper) (L : Nat) (K : Fr → Heap → Prop) : List (Nat × Bool) → Fr → Heap → Prop
  | [], fr, H => K fr H
  | (i, fl) :: l, fr, H => match ops[i]? with
    | none => False
    | some o => match isR o.op with
      | true => offL L o.op fr ∧ vstep P N ops o (vEX P N ops L K l) fr H
      | false => vstep P N ops o (eKX L fl H (vEX P N ops L K l)) fr H

section
variable {P : Program} {N : Nat} {ops : Array Oper} {L : Nat} {K : Fr → Heap → Prop}

/-! The words of such an order, for simp. -/

def vEXK (P : Program) (N : Nat) (ops : Array Oper) (L : Nat) (K : Fr → Heap → Prop) (l : List (Nat × Bool)) (fr : Fr) (H : Heap) : Prop := vEX P N ops L K l fr H
def eKXK (P : Program) (N : Nat) (ops : Array Oper) (L : Nat) (K : Fr → Heap → Prop) (l : List (Nat × Bool)) (fl : Bool) (H : Heap) (fr : Fr) (H' : Heap) : Prop :=
  match fl with
  | true => andK (KeepL L H H') (vEX P N ops L K l fr H')
  | false => vEX P N ops L K l fr H'
def offB (L : Nat) (o : Op) (fr : Fr) : Prop := match rdBlk o fr with
  | some i => i < L
  | none => True
theorem offB_iff {L : Nat} {o : Op} {fr : Fr} : offB L o fr = offL L o fr := by
  unfold offB offL
  cases rdBlk o fr with
  | none => simp
  | some i => simp
def vEXo (P : Program) (N : Nat) (ops : Array Oper) (L : Nat) (K : Fr → Heap → Prop) (l : List (Nat × Bool)) (fl : Bool) (fr : Fr) (H : Heap) (o : Oper) : Prop :=
  match isR o.op with
  | true => andK (offB L o.op fr) (vstep P N ops o (vEXK P N ops L K l) fr H)
  | false => vstep P N ops o (eKXK P N ops L K l fl H) fr H

theorem vEX_nil (K : Fr → Heap → Prop) (fr : Fr) (H : Heap) : vEX P N ops L K [] fr H = K fr H := rfl
theorem vEX_cons (K : Fr → Heap → Prop) (i : Nat) (fl : Bool) (l : List (Nat × Bool)) (fr : Fr) (H : Heap) : vEX P N ops L K ((i, fl) :: l) fr H = bindO ops[i]? (vEXo P N ops L K l fl fr H) := by
  have e : eKX L fl H (vEX P N ops L K l) = eKXK P N ops L K l fl H := by
    funext f h
    cases fl <;> rfl
  simp only [vEX]
  cases ops[i]? with
  | none => simp [bindO]
  | some o =>
    simp only [bindO_some, vEXo]
    cases isR o.op with
    | true => rw [offB_iff]; rfl
    | false => simp only [e]

attribute [go_sem] vEXK eKXK vEXo vEX_nil vEX_cons offB rdBlk blkOf

end
end Go.Ab
end

section
/- Appending whole lists to a list that the call holds alone; slices.Clone, Grow and Concat over blocks. -/
set_option linter.all false
set_option maxRecDepth 20000
namespace Go.Ab

/-- A slice of n elements that the call holds alone: nil, empty, or a block of its own, from L on. -/
def OE (e L : Nat) (H : Heap) (v : Value) (cs : List Value) (n : Nat) : Prop :=
  cs.length = n * e ∧ ((n = 0 ∧ v = .slice none 0 0) ∨ (∃ id, n = 0 ∧ L ≤ id ∧ v = .slice (some ⟨id, 0, none⟩) 0 0 ∧ H[id]? = some ⟨[], true, true⟩) ∨
    ∃ id, L ≤ id ∧ v = lv e id 0 n ∧ ((n = 0 ∧ (ghostAt H id = true ∨ ownAt H id = true)) ∨ H[id]? = some ⟨cs, true, true⟩))

theorem OE.nil (e L : Nat) (H : Heap) : OE e L H (.slice none 0 0) [] 0 := ⟨by simp, .inl ⟨rfl, rfl⟩⟩
theorem OE.empty {e L : Nat} {H : Heap} {id : Nat} (hL : L ≤ id) (h : H[id]? = some ⟨[], true, true⟩) : OE e L H (.slice (some ⟨id, 0, none⟩) 0 0) [] 0 := ⟨by simp, .inr (.inl ⟨id, rfl, hL, rfl, h⟩)⟩
theorem OE.len {e L : Nat} {H : Heap} {v : Value} {cs : List Value} {n : Nat} (h : OE e L H v cs n) : lenV v = n := by
  rcases h.2 with ⟨rfl, rfl⟩ | ⟨id, rfl, _, rfl, _⟩ | ⟨id, _, rfl, _⟩ <;> rfl
theorem OE.one {e L : Nat} {H : Heap} {v : Value} {cs : List Value} {n : Nat} (h : OE e L H v cs n) : v.oneCell' = true := by
  rcases h.2 with ⟨rfl, rfl⟩ | ⟨id, rfl, _, rfl, _⟩ | ⟨id, _, rfl, _⟩ <;> rfl
theorem OE.shape {e L : Nat} {H : Heap} {v : Value} {cs : List Value} {n : Nat} (h : OE e L H v cs n) : ∃ a, v = .slice a n n := by
  rcases h.2 with ⟨rfl, rfl⟩ | ⟨id, rfl, _, rfl, _⟩ | ⟨id, _, rfl, _⟩ <;> exact ⟨_, rfl⟩
theorem OE.keep {e L : Nat} {H H' : Heap} {S : Nat → Prop} (hs : Same S H H') (hS : ∀ j, L ≤ j → ¬ S j) {v : Value} {cs : List Value} {n : Nat} (h : OE e L H v cs n) : OE e L H' v cs n := by
  have keep : ∀ {id : Nat} {b : Blk}, L ≤ id → H[id]? = some b → H'[id]? = some b := fun hL hb => hs.get hb (hS _ hL)
  refine ⟨h.1, ?_⟩
  rcases h.2 with h | ⟨id, h1, h2, h3, h4⟩ | ⟨id, h1, h2, h3⟩
  · exact .inl h
  · exact .inr (.inl ⟨id, h1, h2, h3, keep h2 h4⟩)
  · refine .inr (.inr ⟨id, h1, h2, ?_⟩)
    rcases h3 with ⟨h0, h3⟩ | h3
    · refine .inl ⟨h0, ?_⟩
      rcases h3 with h3 | h3
      · obtain ⟨b, hb, h5, h6⟩ := ghostAt_inv h3
        left; simp [ghostAt, keep h1 hb, h5, h6]
      · obtain ⟨b, hb, h5, h6⟩ := ownAt_inv h3
        right; simp [ownAt, keep h1 hb, h5, h6]
    · exact .inr (keep h1 h3)
theorem OE.pre {e L : Nat} {H H' : Heap} (hp : H <+: H') {v : Value} {cs : List Value} {n : Nat} (h : OE e L H v cs n) : OE e L H' v cs n := h.keep (S := fun _ => False) (Same.of_prefix hp) (fun _ _ h => h)

theorem KeepL.of_prefix {L : Nat} {H H' : Heap} (hp : H <+: H') (hL : L ≤ H.length) : KeepL L H H' := by
  intro i hi
  obtain ⟨t, rfl⟩ := hp
  exact List.getElem?_append_left (by omega)
theorem KeepL.refl (L : Nat) (H : Heap) : KeepL L H H := fun _ _ => rfl

theorem OE.append {e L : Nat} {H : Heap} {v : Value} {cs : List Value} {n : Nat} (h : OE e L H v cs n) (he : 0 < e) (hL : L ≤ H.length) {m : Nat} {news : List Value} (hn : news.length = m * e) :
    ∃ v' H', appendH H e v m news = some (v', H') ∧ OE e L H' v' (cs ++ news) (n + m) ∧ KeepL L H H' ∧ H.length ≤ H'.length := by
  by_cases hm : m = 0
  · subst hm
    have : news = [] := List.eq_nil_of_length_eq_zero (by simpa using hn)
    subst this
    obtain ⟨a, rfl⟩ := h.shape
    exact ⟨.slice a n n, H, by simp [appendH], by simpa using h, KeepL.refl _ _, Nat.le_refl _⟩
  · have new : ∀ cs' : List Value, (H ++ [(⟨cs', true, true⟩ : Blk)])[H.length]? = some ⟨cs', true, true⟩ := by intro cs'; simp
    rcases h.2 with ⟨rfl, rfl⟩ | ⟨id, rfl, h1, rfl, h2⟩ | ⟨id, h1, rfl, h2⟩
    · have : cs = [] := List.eq_nil_of_length_eq_zero (by simpa using h.1)
      subst this
      refine ⟨lv e H.length 0 m, H ++ [⟨news, true, true⟩], by simp [appendH, hm], ⟨by simpa using hn, .inr (.inr ⟨H.length, hL, by simp, .inr (new _)⟩)⟩, KeepL.of_prefix (List.prefix_append _ _) hL, by simp⟩
    · have : cs = [] := List.eq_nil_of_length_eq_zero (by simpa using h.1)
      subst this
      have hc : cellsAt H id 0 0 = some [] := by rw [cellsAt_of h2 rfl (by simp)]; simp
      refine ⟨lv e H.length 0 m, H ++ [⟨news, true, true⟩], by simp [appendH, hm, hc], ⟨by simpa using hn, .inr (.inr ⟨H.length, hL, by simp, .inr (new _)⟩)⟩, KeepL.of_prefix (List.prefix_append _ _) hL, by simp⟩
    · have kill : ∀ cs' : List Value, KeepL L H (H.kill id ++ [⟨cs', true, true⟩]) := by
        intro cs' i hi
        rw [List.getElem?_append_left (by rw [Heap.kill_length]; omega)]
        unfold Heap.kill
        split
        · exact List.getElem?_set_ne (by omega)
        · rfl
      have newk : ∀ cs' : List Value, (H.kill id ++ [(⟨cs', true, true⟩ : Blk)])[H.length]? = some ⟨cs', true, true⟩ := by
        intro cs'
        rw [List.getElem?_append_right (by rw [Heap.kill_length]; exact Nat.le_refl _), Heap.kill_length]; simp
      rcases h2 with ⟨rfl, h2⟩ | h2
      · have : cs = [] := List.eq_nil_of_length_eq_zero (by simpa using h.1)
        subst this
        by_cases hg : ghostAt H id = true
        · refine ⟨lv e H.length 0 m, H ++ [⟨news, true, true⟩], by simp [appendH, hm, hg, he], ⟨by simpa using hn, .inr (.inr ⟨H.length, hL, by simp, .inr (new _)⟩)⟩, KeepL.of_prefix (List.prefix_append _ _) hL, by simp⟩
        · have ho := h2.resolve_left hg
          obtain ⟨b, hb, hbl, hbo⟩ := ownAt_inv ho
          have hc : cellsAt H id 0 0 = some [] := by rw [cellsAt_of hb hbl (by simp)]; simp
          exact ⟨lv e H.length 0 m, H.kill id ++ [⟨news, true, true⟩], by simp [appendH, hm, hg, ho, hc], ⟨by simpa using hn, .inr (.inr ⟨H.length, hL, by simp, .inr (newk _)⟩)⟩, kill _, by simp [Heap.kill_length]⟩
      · have hc : cellsAt H id 0 (n * e) = some cs := by rw [← h.1, cellsAt_of h2 rfl (by simp)]; simp
        have hown : ownAt H id = true := by simp [ownAt, h2]
        have hng : ghostAt H id = false := by simp [ghostAt, h2]
        exact ⟨lv e H.length 0 (n + m), H.kill id ++ [⟨cs ++ news, true, true⟩], by simp [appendH, hm, hown, hng, hc], ⟨by simp [h.1, hn, Nat.add_mul], .inr (.inr ⟨H.length, hL, rfl, .inr (newk _)⟩)⟩, kill _, by simp [Heap.kill_length]⟩

theorem KeepL.prefix {L : Nat} {H0 H H' : Heap} (hp : H0 <+: H) (hL : H0.length ≤ L) (hk : KeepL L H H') (hl : H.length ≤ H'.length) : H0 <+: H' :=
  (show Same (fun j => L ≤ j) H0 H' from (Same.of_prefix hp).trans ⟨hl, fun j _ hj => hk j (by omega)⟩).prefix (by intro j hj h; omega)

theorem At.src {H : Heap} {i o n : Nat} {cs : List Value} {e : Nat} {s : Option Nat} (h : At H i o cs) (hn : cs.length = n * e) (he : 0 < e) (c : Nat) : srcCells H e (.slice (some ⟨i, o, s⟩) n c) = some cs := by
  simp only [srcCells]
  by_cases h0 : n = 0
  · rw [if_pos h0]; subst h0; simp at hn; rw [hn]
  · rw [if_neg h0, ← hn]
    refine h.resolve_left (fun hc => ?_)
    have hpos : 0 < n * e := Nat.mul_pos (by omega) he
    rw [hc, List.length_nil] at hn
    omega

end Go.Ab
namespace Go.Proofs.Ytdfeoccjllljiaa
open Go.Ab

theorem _root_.Go.Ab.OE.blocks {L : Nat} {H : Heap} {v : Value} {bs : List Bk} (h : OE 3 L H v (tri bs) bs.length) (hl : bs.length ≤ 140737488355328) : ∃ w, Up H v w ∧ BlocksIn L H.length H w bs := by
  rcases h.2 with ⟨h0, rfl⟩ | ⟨id, h0, h1, rfl, h2⟩ | ⟨id, h1, rfl, h2⟩
  · obtain rfl := List.eq_nil_of_length_eq_zero h0
    exact ⟨_, Up.nil _ 0 0 3, BlocksIn.nil _ _ _⟩
  · obtain rfl := List.eq_nil_of_length_eq_zero h0
    exact ⟨_, Up.ex0 _ _ _ 3 0 0, BlocksIn.nil _ _ _⟩
  · refine ⟨_, Up.refl _ _, id, ⟨rfl, ?_, hl⟩, fun hne => ?_⟩
    · rcases h2 with ⟨h0, _⟩ | h2
      · exact .inl (List.eq_nil_of_length_eq_zero h0)
      · exact .inr h2
    · rcases h2 with ⟨h0, _⟩ | h2
      · exact absurd (List.eq_nil_of_length_eq_zero h0) hne
      · exact ⟨h1, (List.getElem?_eq_some_iff.1 h2).1⟩
theorem _root_.Go.Ab.OE.ints {L : Nat} {H : Heap} {v : Value} {xs : List Int} (h : OE 1 L H v (ints xs) xs.length) (hl : xs.length ≤ 140737488355328) : ∃ w, Up H v w ∧ IntsIn L H.length H w xs := by
  rcases h.2 with ⟨h0, rfl⟩ | ⟨id, h0, h1, rfl, h2⟩ | ⟨id, h1, rfl, h2⟩
  · obtain rfl := List.eq_nil_of_length_eq_zero h0
    exact ⟨_, Up.nil _ 0 0 1, IntsIn.nil _ _ _⟩
  · obtain rfl := List.eq_nil_of_length_eq_zero h0
    exact ⟨_, Up.ex0 _ _ _ 1 0 0, IntsIn.nil _ _ _⟩
  · refine ⟨_, Up.refl _ _, id, ⟨rfl, ?_, hl⟩, fun hne => ?_⟩
    · rcases h2 with ⟨h0, _⟩ | h2
      · exact .inl (List.eq_nil_of_length_eq_zero h0)
      · exact .inr h2
    · rcases h2 with ⟨h0, _⟩ | h2
      · exact absurd (List.eq_nil_of_length_eq_zero h0) hne
      · exact ⟨h1, (List.getElem?_eq_some_iff.1 h2).1⟩

/-- A system without the block k. -/
def without (bs : List Bk) (k : Nat) : List Bk := bs.take k ++ bs.drop (k + 1)

end Go.Proofs.Ytdfeoccjllljiaa
end

section
/- Sets of points by their bits. -/
set_option linter.all false
set_option maxRecDepth 20000
set_option maxHeartbeats 4000000
namespace Go.Proofs.Ytdfeoccjllljiaa
open Go.Ab

/-- The bits of a list of points. -/
def maskL (xs : List Int) : Nat := xs.foldl (fun m x => m ||| 2 ^ x.toNat) 0
def bm (b : Bk) : Nat := maskL [b.a, b.b, b.c]
theorem maskL_snoc (xs : List Int) (x : Int) : maskL (xs ++ [x]) = maskL xs ||| 2 ^ x.toNat := by simp [maskL, List.foldl_append]
theorem or_lt {a b n : Nat} (ha : a < 2 ^ n) (hb : b < 2 ^ n) : a ||| b < 2 ^ n := Nat.or_lt_two_pow ha hb
theorem maskL_lt {xs : List Int} {n : Nat} (h : ∀ x ∈ xs, 0 ≤ x ∧ x < n) : maskL xs < 2 ^ n := by
  have key : ∀ (xs : List Int) (m : Nat), m < 2 ^ n → (∀ x ∈ xs, 0 ≤ x ∧ x < n) → xs.foldl (fun m x => m ||| 2 ^ x.toNat) m < 2 ^ n := by
    intro xs
    induction xs with
    | nil => intro m hm _; exact hm
    | cons x xs ih =>
      intro m hm hx
      have h1 := hx x List.mem_cons_self
      exact ih _ (or_lt hm (Nat.pow_lt_pow_right (by omega) (by omega))) fun y hy => hx y (List.mem_cons_of_mem _ hy)
  exact key xs 0 (Nat.two_pow_pos n) h

theorem or_i64 {a b : Nat} (ha : a < 2 ^ 62) (hb : b < 2 ^ 62) : IntKind.i64.wrap ((BitVec.ofNat 64 a ||| BitVec.ofNat 64 b).toNat : Int) = ((a ||| b : Nat) : Int) := by
  have h3 : a ||| b < 2 ^ 62 := or_lt ha hb
  rw [BitVec.toNat_or, BitVec.toNat_ofNat, BitVec.toNat_ofNat, Nat.mod_eq_of_lt (by omega), Nat.mod_eq_of_lt (by omega)]
  exact i64w (by omega) (by omega)
theorem and_i64 {a b : Nat} (ha : a < 2 ^ 62) (hb : b < 2 ^ 62) : IntKind.i64.wrap ((BitVec.ofNat 64 a &&& BitVec.ofNat 64 b).toNat : Int) = ((a &&& b : Nat) : Int) := by
  have h3 : a &&& b ≤ a := Nat.and_le_left
  rw [BitVec.toNat_and, BitVec.toNat_ofNat, BitVec.toNat_ofNat, Nat.mod_eq_of_lt (by omega), Nat.mod_eq_of_lt (by omega)]
  exact i64w (by omega) (by omega)
/-! The same, in the shape that a walk shows. -/
theorem or_i64w {a b : Nat} (ha : a < 2 ^ 62) (hb : b < 2 ^ 62) : IntKind.i64.wrap ((@BitVec.toNat 64 (@HOr.hOr (BitVec 64) (BitVec 64) (BitVec 64) (@instHOrOfOrOp (BitVec IntKind.i64.bits) (@BitVec.instOrOp IntKind.i64.bits)) (BitVec.ofNat 64 a) (BitVec.ofNat 64 b)) : Nat) : Int) = ((a ||| b : Nat) : Int) := or_i64 ha hb
theorem and_i64w {a b : Nat} (ha : a < 2 ^ 62) (hb : b < 2 ^ 62) : IntKind.i64.wrap ((@BitVec.toNat 64 (@HAnd.hAnd (BitVec 64) (BitVec 64) (BitVec 64) (@instHAndOfAndOp (BitVec IntKind.i64.bits) (@BitVec.instAndOp IntKind.i64.bits)) (BitVec.ofNat 64 a) (BitVec.ofNat 64 b)) : Nat) : Int) = ((a &&& b : Nat) : Int) := and_i64 ha hb

end Go.Proofs.Ytdfeoccjllljiaa
end

section
/- Independent sets: both sides. -/
set_option linter.all false
set_option maxRecDepth 20000
set_option maxHeartbeats 4000000
namespace Go.Proofs.Ytdfeoccjllljiaa
open Go.Ab

/-- No block lies in the set. -/
def inSet (m : Nat) (b : Bk) : Bool := decide (bm b &&& m = bm b)
def indep (bs : List Bk) (m : Nat) : Bool := bs.all fun b => !inSet m b

end Go.Proofs.Ytdfeoccjllljiaa
end

section
/- Numbers in ascending order, the block of three numbers, lists that have the numbers below n once each. Plain Lean. -/
set_option linter.all false
set_option maxRecDepth 20000
namespace Go.Proofs.Ytdfeoccjllljiaa
open Go.Ab Go.Sort

def ltI (x y : Int) : Bool := decide (x < y)
theorem swoI : SWO ltI := by
  refine ⟨fun x => ?_, fun x y z h1 h2 => ?_, fun x y z h1 h2 => ?_⟩ <;> simp only [ltI, decide_eq_true_eq, decide_eq_false_iff_not] at * <;> omega
/-- Ascending, equal numbers side by side. -/
def AscI (l : List Int) : Prop := l.Pairwise (fun x y => ltI y x = false)
theorem AscI.get {l : List Int} (h : AscI l) {i j : Nat} (hi : i < l.length) (hj : j < l.length) (hij : i < j) : l[i] ≤ l[j] := by
  have := List.pairwise_iff_getElem.1 h i j hi hj hij
  simp only [ltI, decide_eq_false_iff_not] at this; omega
theorem int_uniq {l m : List Int} (hp : l.Perm m) (h1 : AscI l) (h2 : AscI m) : l = m :=
  hp.eq_of_pairwise (by intro x y _ _ a b; simp only [ltI, decide_eq_false_iff_not] at a b; omega) h1 h2

/-- The block of three numbers. -/
def blk (a b c : Int) : Bk := ⟨min a (min b c), a + b + c - min a (min b c) - max a (max b c), max a (max b c)⟩
def Bk.list (b : Bk) : List Int := [b.a, b.b, b.c]
theorem maskF_bit : ∀ (xs : List Int) (m j : Nat), (∀ x ∈ xs, 0 ≤ x) → ((xs.foldl (fun m x => m ||| 2 ^ x.toNat) m).testBit j = true ↔ m.testBit j = true ∨ (j : Int) ∈ xs)
  | [], m, j, _ => by simp
  | x :: xs, m, j, h => by
    rw [List.foldl_cons, maskF_bit xs _ j (fun y hy => h y (by simp [hy])), Nat.testBit_or, Nat.testBit_two_pow]
    have h0 := h x (by simp)
    have e : (x.toNat = j) ↔ ((j : Int) = x) := by omega
    simp only [Bool.or_eq_true, decide_eq_true_eq, List.mem_cons, e, or_assoc]
theorem maskL_bit {xs : List Int} (h : ∀ x ∈ xs, 0 ≤ x) (j : Nat) : (maskL xs).testBit j = true ↔ (j : Int) ∈ xs := by
  unfold maskL
  rw [maskF_bit xs 0 j h]; simp
end Go.Proofs.Ytdfeoccjllljiaa
end

section
/- slices.Values, slices.Collect, slices.Sorted over numbers, in abstract terms; isOrder. -/
set_option linter.all false
set_option maxRecDepth 20000
set_option maxHeartbeats 4000000
namespace Go.Ab
open Go.RowKit (Below)

theorem R.later {B : Nat} {w0 : World} {ρ : Rho} {H : Heap} {w w' : World} (h : R B w0 ρ H w) (hb : Below w.heap.size w w') : R B w0 ρ H w' :=
  ⟨h.len, h.below.trans (hb.mono h.base), Nat.le_trans h.base hb.size, fun i b l h1 h2 h3 => (h.blk i b l h1 h2 h3).kept (List.prefix_refl _) (hb.block _ (h.blk i b l h1 h2 h3).lt), h.apart, h.ghost⟩

/-- A block that a call has laid. -/
theorem R.addRow {B : Nat} {w0 : World} {ρ : Rho} {H : Heap} {w w' : World} (h : R B w0 ρ H w) (hb : Below w.heap.size w w') {g : Nat} (hg : w.heap.size ≤ g) {arr : Array Value} {elem : TypeId} (hc : w'.heap[g]? = some (.cells arr elem (0, 0))) (cs : List Value)
    (hle : ∀ (k : Nat) (v : Value), cs[k]? = some v → v.oneCell' = true ∧ ∃ cv, arr[k]? = some cv ∧ VR ρ v cv) :
    R B w0 (ρ ++ [⟨g, 0, arr.size⟩]) (H ++ [⟨cs, true, true⟩]) w' := by
  have hpre : ρ <+: ρ ++ [⟨g, 0, arr.size⟩] := List.prefix_append _ _
  have hlt : ∀ (i : Nat) (b : Blk) (l : Loc), H[i]? = some b → ρ[i]? = some l → b.live = true → l.blk < w.heap.size := fun i b l h1 h2 h3 => (h.blk i b l h1 h2 h3).lt
  have h' := h.later hb
  have getH : ∀ (i : Nat) (b : Blk), (H ++ [(⟨cs, true, true⟩ : Blk)])[i]? = some b → (H[i]? = some b ∧ i < H.length) ∨ (i = H.length ∧ b = ⟨cs, true, true⟩) := by
    intro i b hb
    rcases Nat.lt_or_ge i H.length with hi | hi
    · rw [List.getElem?_append_left hi] at hb; exact .inl ⟨hb, hi⟩
    · rw [List.getElem?_append_right hi] at hb
      cases hk : i - H.length with
      | zero => rw [hk] at hb; simp at hb; exact .inr ⟨by omega, hb.symm⟩
      | succ k => rw [hk] at hb; simp at hb
  have getρ : ∀ (i : Nat) (l : Loc), (ρ ++ [(⟨g, 0, arr.size⟩ : Loc)])[i]? = some l → (i < H.length → ρ[i]? = some l) ∧ (i = H.length → l = ⟨g, 0, arr.size⟩) := by
    intro i l hl
    refine ⟨fun hi => ?_, fun hi => ?_⟩
    · rw [List.getElem?_append_left (by rw [h.len]; exact hi)] at hl; exact hl
    · rw [List.getElem?_append_right (by rw [h.len]; omega), h.len, hi] at hl; simpa using hl.symm
  refine ⟨by simp [h.len], h'.below, h'.base, ?_, ?_, ?_⟩
  · intro i b l hb hl hv
    rcases getH i b hb with ⟨hb', hi⟩ | ⟨hi, rfl⟩
    · exact (h'.blk i b l hb' ((getρ i l hl).1 hi) hv).kept hpre rfl
    · have := (getρ i l hl).2 hi
      subst this
      refine ⟨arr, elem, (0, 0), hc, rfl, fun k v hk => ?_, fun _ => ⟨Nat.le_trans h.base hg, rfl⟩⟩
      obtain ⟨h1, cv, h2, h3⟩ := hle k v hk
      exact ⟨h1, cv, by simpa using h2, h3.mono hpre⟩
  · intro i j b c l m hij hb hc hl hm hbl hcl hbo
    rcases getH i b hb with ⟨hb', hi⟩ | ⟨hi, rfl⟩
    · rcases getH j c hc with ⟨hc', hj⟩ | ⟨hj, rfl⟩
      · exact h.apart i j b c l m hij hb' hc' ((getρ i l hl).1 hi) ((getρ j m hm).1 hj) hbl hcl hbo
      · have := (getρ j m hm).2 hj
        subst this
        have := hlt i b l hb' ((getρ i l hl).1 hi) hbl
        show l.blk ≠ g
        omega
    · have := (getρ i l hl).2 hi
      subst this
      rcases getH j c hc with ⟨hc', hj⟩ | ⟨hj, rfl⟩
      · have := hlt j c m hc' ((getρ j m hm).1 hj) hcl
        show g ≠ m.blk
        omega
      · omega
  · intro i b l hb hl hd ho
    rcases getH i b hb with ⟨hb', hi⟩ | ⟨hi, rfl⟩
    · exact h.ghost i b l hb' ((getρ i l hl).1 hi) hd ho
    · cases hd

end Go.Ab
namespace Go.Proofs.Ytdfeoccjllljiaa
open Go.Ab Go.Sort

theorem iin_of {B : Nat} {w0 : World} {ρ : Rho} {H : Heap} {w : World} (hR : R B w0 ρ H w) {u cv : Value} {xs : List Int} (hu : IntsAt H u xs) (hv : VR ρ u cv) : IIn w.heap.size w cv xs := by
  obtain ⟨i, o, rfl, h1, h2⟩ := hu
  by_cases h0 : xs = []
  · subst h0
    cases hv with
    | sliceUnk _ _ _ _ _ c l hl => exact .inl ⟨_, _, rfl, rfl⟩
    | sliceZero => exact .inl ⟨_, _, rfl, rfl⟩
  · rcases h1 with h1 | h1
    · exact absurd (by simpa [ints] using h1) h0
    have hpos : 0 < xs.length := List.length_pos_iff.2 h0
    have hlen : (ints xs).length = xs.length := by simp [ints]
    rw [hlen] at h1
    obtain ⟨l, ds, hl, _, hds, _, hcell⟩ := hR.cellsAt h1
    obtain ⟨b, hb, hbl, hn, _⟩ := cellsAt_inv h1
    have hblk := (hR.blk i b l hb hl hbl).lt
    generalize hm : xs.length = m at *
    cases hv with
    | sliceUnk _ _ _ _ o' c l' hl' hoff =>
      rw [hl] at hl'; cases hl'
      rcases hoff with rfl | ⟨e, _⟩
      · refine .inr ⟨l.blk, l.off + o, c, by rw [hm], hblk, fun j hj => ?_⟩
        rw [hm] at hj
        have hx : (ints xs)[j]? = some (.int .i64 xs[j]) := by simp [ints, List.getElem?_eq_getElem (show j < xs.length by omega)]
        have hdl : j < ds.length := by rw [← hds.1, hlen]; omega
        have h3 := hds.2 j _ _ hx (List.getElem?_eq_getElem hdl)
        have h4 := hcell j _ (List.getElem?_eq_getElem hdl)
        rw [h3.int_inv] at h4
        rw [h4, List.getElem?_eq_getElem (show j < xs.length by omega)]
        rfl
      · omega
    | sliceZero => omega

theorem collect_ok {H : Heap} {id : Nat} {u : Value} {xs : List Int} (hx : Holds H id [u]) (hu : IntsAt H u xs) (hl : xs.length ≤ 1048576) (Post : Value → Heap → Prop) (h : ∀ H' w, H <+: H' → IntsIn H.length H'.length H' w xs → Post w H') :
    ACalls Try.prog 178 [.func (.func 179) #[] #[.pointer (some ⟨id, 0, none⟩)]] H Post := by
  refine ⟨⟨_, Try.func178, rfl, rfl⟩, ?_⟩
  intro B w0 ρ w cargs hR hv
  obtain ⟨c, cs', rfl, h1, h2⟩ := hv.cons_inv
  obtain rfl := h2.nil_inv
  obtain ⟨az, bs, rfl, h3, h4⟩ := h1.func_inv
  have haz : az = #[] := by
    have := h3.1; simp at this; exact Array.eq_empty_of_size_eq_zero this.symm
  subst haz
  obtain ⟨c2, cs2, e2, h5, h6⟩ := h4.cons_inv
  obtain rfl := h6.nil_inv
  obtain ⟨l, hl', rfl⟩ := h5.ptr_inv
  have hbs : bs = #[.pointer (some ⟨l.blk, l.off + 0, none⟩)] := by
    apply Array.ext'
    simpa using e2
  subst hbs
  obtain ⟨own, hb⟩ := hx
  obtain ⟨cv, h7, h8, _⟩ := (hR.blk id _ l hb hl' rfl).cell (k := 0) (v := u) rfl
  have hlt := (hR.blk id _ l hb hl' rfl).lt
  refine (collectVals l.blk (l.off + 0) cv xs (Nat.le_trans hl (by decide)) (by omega) w hlt h7 (iin_of hR hu h8)).mono ?_
  rintro e W ⟨v, rfl, hrow, hnil, hbel⟩
  obtain ⟨hrl, hrow⟩ := hrow
  by_cases h0 : xs = []
  · subst h0
    obtain rfl := hnil.2 rfl
    exact ⟨ρ, H, lv 1 0 0 0, _, rfl, List.prefix_refl _, hR.later hbel, .sliceZero _ _ _ _, h H _ (List.prefix_refl _) (IntsIn.nil _ _ _)⟩
  · rcases hrow with ⟨e, _⟩ | ⟨g, cap, cur, rfl, hg, hc, hcap, hmax, hsz, htk⟩
    · exact absurd (hnil.1 e) h0
    · have hR2 := hR.addRow hbel hg hc (ints xs) (by
        intro k v hk
        have hk' := (List.getElem?_eq_some_iff.1 hk).1
        simp only [ints, List.length_map] at hk'
        have e1 : (ints xs)[k]? = some (.int .i64 xs[k]) := by simp [ints, List.getElem?_eq_getElem hk']
        rw [e1] at hk; cases hk
        refine ⟨rfl, _, ?_, .int _ _⟩
        rw [← Array.getElem?_toList]
        have e2 : (cur.toList.take (xs.length * 1))[k]? = some (.int .i64 xs[k]) := by rw [htk]; simp [List.getElem?_eq_getElem hk']
        rw [List.getElem?_take, if_pos (by omega)] at e2
        exact e2)
      refine ⟨_, _, lv 1 H.length 0 xs.length, _, rfl, List.prefix_append _ _, hR2, ?_, h _ _ (List.prefix_append _ _) ⟨H.length, ⟨rfl, .inr (by simp), by omega⟩, fun _ => ⟨Nat.le_refl _, by simp⟩⟩⟩
      refine .sliceUnk _ _ _ _ _ _ ⟨g, 0, cur.size⟩ ?_ (.inl (by simp)) hcap (by simp; omega)
      rw [List.getElem?_append_right (by rw [hR.len]; exact Nat.le_refl _), hR.len]; simp

theorem cmpLess {id : Nat} {H : Heap} : CmpO ltI (fun _ => True) id H := by
  intro H x y Post _ _ _ h
  exact cmpLess_ok _ (h H _ (List.prefix_refl _) rfl)

theorem sortO0_ok {H : Heap} {id : Nat} (Post : Value → Heap → Prop) (h : Post (.tuple #[]) H) : ACalls Try.prog 161 [lv 1 id 0 0] H Post := by
  refine acalls_vc (rs := []) Try.func161 rfl rfl Try.ntmps161 rfl rfl ?_
  simp (maxSteps := 1000000) [go_sem, wu64_0O]
  refine bitsLenC_ok (x := 0) (by omega) _ ?_
  simp (maxSteps := 1000000) [go_sem]
  refine pdq0O_ok _ ?_
  simp (maxSteps := 1000000) [go_sem]
  exact h

theorem cellsI_ints (xs : List Int) : xs.flatMap cellsI = ints xs := by
  induction xs with
  | nil => rfl
  | cons x xs ih => rw [List.flatMap_cons, ih]; rfl

/-- slices.Sort over a list that the call holds alone. -/
theorem sortInts_ok {H : Heap} {id : Nat} {xs : List Int} (hb : xs = [] ∨ H[id]? = some ⟨ints xs, true, true⟩) (hl : xs.length ≤ 1048576) (Post : Value → Heap → Prop)
    (h : ∀ (H' : Heap) (ys : List Int), Same (fun k => k = id) H H' → (xs = [] → H' = H) → (ys = [] ∨ H'[id]? = some ⟨ints ys, true, true⟩) → ys.Perm xs → AscI ys → Post (.tuple #[]) H') :
    ACalls Try.prog 161 [lv 1 id 0 xs.length] H Post := by
  by_cases h0 : xs = []
  · subst h0
    exact sortO0_ok _ (h H [] (Same.refl _ _) (fun _ => rfl) (.inl rfl) (List.Perm.refl _) List.Pairwise.nil)
  · have hb := hb.resolve_left h0
    refine sortFuncO_ok (l := xs) (Q := fun _ => True) swoI ⟨by simp [cellsI_ints, ints], .inr (by rw [cellsI_ints]; exact hb)⟩ rfl hl (fun _ _ => trivial) cmpLess _ ?_
    intro H' ys hS hO hp hs
    refine h H' ys hS (fun e => absurd e h0) ?_ hp hs
    rcases hO.2 with ⟨e, _⟩ | e
    · exact absurd (List.eq_nil_of_length_eq_zero e) h0
    · right; rw [cellsI_ints] at e; exact e

/-- slices.Sorted(slices.Values(..)). -/
theorem sortedI_ok {H : Heap} {id : Nat} {u : Value} {xs : List Int} (hx : Holds H id [u]) (hu : IntsAt H u xs) (hl : xs.length ≤ 1048576) (Post : Value → Heap → Prop) (h : ∀ H' w ys, H <+: H' → IntsIn H.length H'.length H' w ys → ys.Perm xs → AscI ys → Post w H') :
    ACalls Try.prog 151 [.func (.func 179) #[] #[.pointer (some ⟨id, 0, none⟩)]] H Post := by
  refine acalls_vc (rs := [.tmp 2]) Try.func151 rfl rfl Try.ntmps151 rfl rfl ?_
  simp (maxSteps := 1000000) [go_sem]
  refine collect_ok hx hu hl _ ?_
  rintro H1 w hp1 ⟨k, ⟨rfl, hk, hlk⟩, hsp⟩
  simp (maxSteps := 1000000) [go_sem]
  refine sortInts_ok hk hl _ ?_
  intro H2 ys hS he hb hp hs
  have hlen : ys.length = xs.length := hp.length_eq
  have fin := h H2 (lv 1 k 0 xs.length) ys ?_ ⟨k, ⟨by rw [hlen], hb, by omega⟩, fun hne => ?_⟩ hp hs
  · simp (maxSteps := 1000000) [go_sem]
    exact fin
  · by_cases h0 : xs = []
    · subst h0
      rw [he rfl]; exact hp1
    · have := hsp h0
      exact ((Same.of_prefix (S := fun j => j = k) hp1).trans hS).prefix (by rintro j hj rfl; exact absurd hj (by have := this.1; omega))
  · have h0 : xs ≠ [] := by rintro rfl; exact hne (List.eq_nil_of_length_eq_zero (by simpa using hlen))
    have := hsp h0
    exact ⟨this.1, Nat.lt_of_lt_of_le this.2 hS.1⟩

end Go.Proofs.Ytdfeoccjllljiaa
end

section
/- The block of three numbers: blockOf, l01Block; isOrder. -/
set_option linter.all false
set_option maxRecDepth 20000
set_option maxHeartbeats 4000000
namespace Go.Proofs.Ytdfeoccjllljiaa
open Go.Ab Go.Sort

theorem values_ok {H : Heap} {i o n : Nat} (Post : Value → Heap → Prop) (h : Post (.func (.func 179) #[] #[.pointer (some ⟨H.length, 0, none⟩)]) (H ++ [⟨[lv 1 i o n], true, true⟩])) :
    ACalls Try.prog 152 [lv 1 i o n] H Post := by
  refine acalls_vc (rs := [.tmp 2]) Try.func152 rfl rfl Try.ntmps152 rfl rfl ?_
  simp (maxSteps := 1000000) [go_sem]
  exact h

end Go.Proofs.Ytdfeoccjllljiaa
end
