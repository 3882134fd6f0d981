/- Part 7 of what the proof of the law FnExactPartsOfTrade rests on: contracts of functions of the program, for every argument that each names; no statement of the seat is proved here. -/
import Derived.Test.YtdfeoccjllljiaaFnExactPartsOfTradePart6

section
/- bits.Len of small numbers, the next power of two, the next number drawn by xorshift. -/
set_option linter.all false
set_option maxRecDepth 20000
set_option maxHeartbeats 4000000
namespace Go.Proofs.Ytdfeoccjllljiaa
open Go.Ab Go.Sort

theorem fdivNN (a b : Nat) : ((a : Int).fdiv (b : Int)) = ((a / b : Nat) : Int) := by
  rw [Int.fdiv_eq_ediv_of_nonneg _ (by omega)]; rfl
/-- A table of lengths. -/
def tabOK (s : ByteArray) : Bool := (List.range 256).all fun y => match s[y]? with | some v => v.toNat == bitsLen y | none => false
theorem bindO_tab {s : ByteArray} {x : Nat} {K : UInt8 → Prop} (ht : tabOK s = true) (hx : x < 256) (h : ∀ v : UInt8, v.toNat = bitsLen x → K v) : bindO s[x]? K := by
  have := List.all_eq_true.1 ht x (List.mem_range.2 hx)
  revert this
  cases hs : s[x]? with
  | none => intro h; cases h
  | some v => intro h2; exact ⟨v, rfl, h v (by simpa using h2)⟩
theorem bitsLen_lt {x k : Nat} (h : x < 2 ^ k) : bitsLen x ≤ k := (bitsLen_le_iff x k).2 h
theorem bitsLen_shift {x k : Nat} (h : 0 < x / 2 ^ k) : bitsLen x = k + bitsLen (x / 2 ^ k) := by
  have key : ∀ m, bitsLen x ≤ k + m ↔ bitsLen (x / 2 ^ k) ≤ m := by
    intro m
    rw [bitsLen_le_iff, bitsLen_le_iff, Nat.div_lt_iff_lt_mul (Nat.two_pow_pos k), ← Nat.pow_add, Nat.add_comm m k]
  have h1 := (key (bitsLen (x / 2 ^ k))).2 (Nat.le_refl _)
  have h2 : k ≤ bitsLen x := by
    rcases Nat.lt_or_ge (bitsLen x) k with h3 | h3
    · have := (bitsLen_le_iff x k).1 (by omega)
      rw [Nat.div_eq_of_lt this] at h; omega
    · exact h3
  have h3 := (key (bitsLen x - k)).1 (by omega)
  omega

theorem len64_ok {H : Heap} {x : Nat} (hx : x < 2097152) (Post : Value → Heap → Prop) (h : Post (.int .i64 (bitsLen x : Nat)) H) : ACalls Try.prog 200 [.int .u64 x] H Post := by
  refine acalls_vc (rs := [.tmp 2]) Try.func200 rfl rfl Try.ntmps200 rfl rfl ?_
  have a1 : ¬ ((4294967296 : Int) ≤ x) := by omega
  have a6 : ¬ 4294967296 ≤ x := by omega
  by_cases h1 : x < 256
  · have a2 : ¬ ((65536 : Int) ≤ x) := by omega
    have a3 : ¬ ((256 : Int) ≤ x) := by omega
    have a4 : ¬ 65536 ≤ x := by omega
    have a5 : ¬ 256 ≤ x := by omega
    have w1 : IntKind.u8.wrap (x : Int) = x := by rw [IntKind.wrap_u8]; omega
    simp (maxSteps := 1000000) [go_sem, a1, a2, a3, a4, a5, a6, w1]
    refine bindO_tab (by kernel_rfl) h1 ?_
    intro v hv
    have hb := bitsLen_lt (x := x) (k := 8) (by omega)
    generalize bitsLen x = L at *
    have w2 : IntKind.i64.wrap (L : Int) = L := i64w (by omega) (by omega)
    simp (maxSteps := 1000000) [go_sem, hv, w2]
    exact h
  · by_cases h2 : x < 65536
    · have a2 : ¬ ((65536 : Int) ≤ x) := by omega
      have a3 : ((256 : Int) ≤ x) := by omega
      have a4 : ¬ 65536 ≤ x := by omega
      have a5 : 256 ≤ x := by omega
      obtain ⟨y, hy⟩ : ∃ y, y = x / 256 := ⟨_, rfl⟩
      have hsh := bitsLen_shift (x := x) (k := 8) (by show 0 < x / 256; omega)
      have hsh' : bitsLen x = 8 + bitsLen y := by rw [hy]; exact hsh
      rw [hsh'] at h
      have w0 : (x : Int).fdiv 256 = y := by rw [show (256 : Int) = ((256 : Nat) : Int) from rfl, fdivNN, hy]
      have w4 : IntKind.i64.wrap 8 = 8 := i64w (by omega) (by omega)
      have w1 : IntKind.u8.wrap (y : Int) = y := by rw [IntKind.wrap_u8]; omega
      have hb := bitsLen_lt (x := y) (k := 8) (by omega)
      simp (maxSteps := 1000000) [go_sem, a1, a2, a3, a4, a5, a6, w0, w1]
      refine bindO_tab (by kernel_rfl) (show y < 256 by omega) ?_
      intro v hv
      generalize bitsLen y = L at *
      have w2 : IntKind.i64.wrap (L : Int) = L := i64w (by omega) (by omega)
      have w3 : IntKind.i64.wrap (8 + (L : Int)) = 8 + (L : Int) := i64w (by omega) (by omega)
      simp (maxSteps := 1000000) [go_sem, hv, w2, w3, w4]
      simpa using h
    · have a2 : ((65536 : Int) ≤ x) := by omega
      have a3 : ((256 : Int) ≤ x) := by omega
      have a4 : 65536 ≤ x := by omega
      have a5 : 256 ≤ x := by omega
      obtain ⟨y, hy⟩ : ∃ y, y = x / 65536 := ⟨_, rfl⟩
      have hsh := bitsLen_shift (x := x) (k := 16) (by show 0 < x / 65536; omega)
      have hsh' : bitsLen x = 16 + bitsLen y := by rw [hy]; exact hsh
      rw [hsh'] at h
      have w0 : (x : Int).fdiv 65536 = y := by rw [show (65536 : Int) = ((65536 : Nat) : Int) from rfl, fdivNN, hy]
      have w4 : IntKind.i64.wrap 16 = 16 := i64w (by omega) (by omega)
      have w1 : IntKind.u8.wrap (y : Int) = y := by rw [IntKind.wrap_u8]; omega
      have hb := bitsLen_lt (x := y) (k := 8) (by omega)
      have a7 : ¬ ((256 : Int) ≤ y) := by omega
      have a8 : ¬ 256 ≤ y := by omega
      simp (maxSteps := 1000000) [go_sem, a1, a2, a3, a4, a5, a6, w0, w1, a7, a8]
      refine bindO_tab (by kernel_rfl) (show y < 256 by omega) ?_
      intro v hv
      generalize bitsLen y = L at *
      have w2 : IntKind.i64.wrap (L : Int) = L := i64w (by omega) (by omega)
      have w3 : IntKind.i64.wrap (16 + (L : Int)) = 16 + (L : Int) := i64w (by omega) (by omega)
      simp (maxSteps := 1000000) [go_sem, hv, w2, w3, w4]
      simpa using h

theorem bitsLenC_ok {H : Heap} {x : Nat} (hx : x < 2097152) (Post : Value → Heap → Prop) (h : Post (.int .i64 (bitsLen x : Nat)) H) : ACalls Try.prog 184 [.int .u64 x] H Post := by
  refine acalls_vc (rs := [.tmp 2]) Try.func184 rfl rfl Try.ntmps184 rfl rfl ?_
  have w1 : IntKind.u64.wrap (x : Int) = x := by rw [IntKind.wrap_u64]; omega
  simp (maxSteps := 1000000) [go_sem, w1]
  refine len64_ok hx _ ?_
  simp (maxSteps := 1000000) [go_sem]
  exact h

theorem nextPow_ok {H : Heap} {x : Nat} (h0 : 0 < x) (hx : x < 2097152) (Post : Value → Heap → Prop) (h : ∀ m : Nat, 0 < m → m ≤ 2 * x → Post (.int .u64 m) H) : ACalls Try.prog 204 [.int .i64 x] H Post := by
  refine acalls_vc (rs := [.tmp 2]) Try.func204 rfl rfl Try.ntmps204 rfl rfl ?_
  have w1 : IntKind.u64.wrap (x : Int) = x := by rw [IntKind.wrap_u64]; omega
  simp (maxSteps := 1000000) [go_sem, w1]
  refine bitsLenC_ok hx _ ?_
  have hp := two_pow_bitsLen_le h0
  have hb := bitsLen_lt (x := x) (k := 21) (by omega)
  have fin := h _ (Nat.two_pow_pos (bitsLen x)) hp
  have hcast : ((2 : Int) ^ bitsLen x) = ((2 ^ bitsLen x : Nat) : Int) := by rw [Int.natCast_pow]; rfl
  have hmin : min (bitsLen x) 64 = bitsLen x := by omega
  generalize bitsLen x = L at *
  obtain ⟨T, hT⟩ : ∃ T, T = 2 ^ L := ⟨_, rfl⟩
  rw [← hT] at hcast hp fin
  have hsh : IntKind.u64.wrap ((2 : Int) ^ L) = T := by rw [hcast, IntKind.wrap_u64]; omega
  simp (maxSteps := 1000000) [go_sem, hmin, hsh]
  exact fin

theorem xorNext_ok {H : Heap} {rid : Nat} {z : Int} (hz : H[rid]? = some ⟨[.int .u64 z], true, true⟩) (Post : Value → Heap → Prop)
    (h : ∀ (z' : Nat) (H' : Heap), z' < 18446744073709551616 → Same (fun k => k = rid) H H' → H'[rid]? = some ⟨[.int .u64 z'], true, true⟩ → Post (.int .u64 z') H') :
    ACalls Try.prog 205 [.pointer (some ⟨rid, 0, none⟩)] H Post := by
  have hlt := (List.getElem?_eq_some_iff.1 hz).1
  have l0 : cellsAt H rid 0 1 = some [.int .u64 z] := by rw [cellsAt_of hz rfl (by simp)]; rfl
  have s0 : ∀ v : Int, storeAt H rid 0 [.int .u64 v] = some (H.set rid ⟨[.int .u64 v], true, true⟩) := by
    intro v; rw [storeAt_of hz rfl rfl (by simp) (by simp [Value.oneCell'])]; rfl
  have g1 : ∀ v : Int, (H.set rid ⟨[.int .u64 v], true, true⟩)[rid]? = some ⟨[.int .u64 v], true, true⟩ := fun v => List.getElem?_set_self hlt
  have l1 : ∀ v : Int, cellsAt (H.set rid ⟨[.int .u64 v], true, true⟩) rid 0 1 = some [.int .u64 v] := by
    intro v; rw [cellsAt_of (g1 v) rfl (by simp)]; rfl
  have s1 : ∀ v w : Int, storeAt (H.set rid ⟨[.int .u64 v], true, true⟩) rid 0 [.int .u64 w] = some (H.set rid ⟨[.int .u64 w], true, true⟩) := by
    intro v w; rw [storeAt_of (g1 v) rfl rfl (by simp) (by simp [Value.oneCell'])]; simp [over]
  have fin : ∀ v : Int, 0 ≤ v → v < 18446744073709551616 → Post (.int .u64 v) (H.set rid ⟨[.int .u64 v], true, true⟩) := by
    intro v h0 h1
    obtain ⟨k, rfl⟩ : ∃ k : Nat, v = k := ⟨v.toNat, by omega⟩
    exact h k _ (by omega) same_set (g1 _)
  refine acalls_vc (rs := [.tmp 2]) Try.func205 rfl rfl Try.ntmps205 rfl rfl ?_
  simp (maxSteps := 1000000) [go_sem]
  refine AWp.draw mixed [(0, false), (1, false), (2, false), (3, false), (4, false), (5, false), (6, false), (7, false), (8, false), (9, false)] (by kernel_rfl) ?_
  simp (maxSteps := 1000000) [go_sem, l0, s0]
  refine AWp.draw mixed [(0, false), (1, false), (2, false), (3, false), (4, false), (5, false), (6, false), (7, false), (8, false), (9, false)] (by kernel_rfl) ?_
  simp (maxSteps := 1000000) [go_sem, l1, s1]
  refine AWp.draw mixed [(0, false), (1, false), (2, false), (3, false), (4, false), (5, false), (6, false), (7, false), (8, false), (9, false)] (by kernel_rfl) ?_
  simp (maxSteps := 1000000) [go_sem, l1, s1]
  refine fin _ ?_ ?_ <;> (rw [IntKind.wrap_u64]; omega)

theorem and_u64r {a b : Nat} (hb : b < 2 ^ 62) : IntKind.u64.wrap ((@BitVec.toNat 64 (@HAnd.hAnd (BitVec 64) (BitVec 64) (BitVec 64) (@instHAndOfAndOp (BitVec IntKind.u64.bits) (@BitVec.instAndOp IntKind.u64.bits)) (BitVec.ofNat 64 a) (BitVec.ofNat 64 b)) : Nat) : Int) = (((a % 2 ^ 64) &&& b : Nat) : Int) := by
  have e : (@BitVec.toNat 64 (@HAnd.hAnd (BitVec 64) (BitVec 64) (BitVec 64) (@instHAndOfAndOp (BitVec IntKind.u64.bits) (@BitVec.instAndOp IntKind.u64.bits)) (BitVec.ofNat 64 a) (BitVec.ofNat 64 b))) = (a % 2 ^ 64) &&& b := by
    show ((BitVec.ofNat 64 a) &&& (BitVec.ofNat 64 b)).toNat = _
    rw [BitVec.toNat_and, BitVec.toNat_ofNat, BitVec.toNat_ofNat, Nat.mod_eq_of_lt (show b < 2 ^ 64 by omega)]
  rw [e, IntKind.wrap_u64]
  have h1 : (a % 2 ^ 64) &&& b ≤ b := Nat.and_le_right
  omega

end Go.Proofs.Ytdfeoccjllljiaa
end

section
/- Sorting by a function: the breaking of patterns. -/
set_option linter.all false
set_option maxRecDepth 20000
set_option maxHeartbeats 8000000
namespace Go.Proofs.Ytdfeoccjllljiaa
open Go.Ab Go.Sort

theorem breakP_ok {H : Heap} {id a b n : Nat} {d : Array (Int × Int)} {g : FuncId} {fs cs : List Value} {Q : (Int × Int) → Prop} (hA : Arr cellsP H id d) (hn : d.size = n) (hl : n ≤ 1048576) (hab : a ≤ b) (hb : b ≤ n) (hQ : QA Q d)
    (Post : Value → Heap → Prop) (h : ∀ H' d', Same (fun k => k = id) H H' → Arr cellsP H' id d' → QA Q d' → PermIn a b d d' → Post (.tuple #[]) H') :
    ACalls Try.prog 218 [lv 2 id 0 n, .int .i64 a, .int .i64 b, .func (.func g) fs.toArray cs.toArray] H Post := by
  refine acalls_vc (rs := []) Try.func218 rfl rfl Try.ntmps218 rfl rfl ?_
  obtain ⟨l, hll⟩ : ∃ l, l = b - a := ⟨_, rfl⟩
  obtain ⟨q, hq⟩ : ∃ q, q = l / 4 := ⟨_, rfl⟩
  have w0 : IntKind.i64.wrap ((b : Int) - a) = (l : Int) := by rw [hll, i64w (by omega) (by omega)]; omega
  by_cases h8 : 8 ≤ l
  · have h8' : (8 : Int) ≤ l := by omega
    obtain ⟨i0, hi0⟩ : ∃ i0, i0 = a + q * 2 - 1 := ⟨_, rfl⟩
    have w1 : IntKind.i64.wrap ((l : Int) / 4) = (q : Int) := by rw [hq, i64w (by omega) (by omega)]; omega
    have w2 : IntKind.i64.wrap ((q : Int) * 2) = (q : Int) * 2 := i64w (by omega) (by omega)
    have w3 : IntKind.i64.wrap ((a : Int) + (q : Int) * 2) = (a : Int) + (q : Int) * 2 := i64w (by omega) (by omega)
    have w4 : IntKind.i64.wrap ((a : Int) + (q : Int) * 2 - 1) = (i0 : Int) := by rw [hi0, i64w (by omega) (by omega)]; omega
    have w5 : IntKind.i64.wrap ((a : Int) + (q : Int) * 2 + 1) = (i0 : Int) + 2 := by rw [i64w (by omega) (by omega)]; omega
    have w6 : IntKind.u64.wrap (l : Int) = l := by rw [IntKind.wrap_u64]; omega
    simp (maxSteps := 1000000) [go_sem, w0, h8, h8', w6]
    have hp0 : H <+: H ++ [⟨[.int .u64 l], true, true⟩] := List.prefix_append _ _
    have hz0 : (H ++ [(⟨[.int .u64 l], true, true⟩ : Blk)])[H.length]? = some ⟨[.int .u64 l], true, true⟩ := by simp
    have hidl := hA.lt
    have hA0 := hA.pre hp0
    have hS0 : Same (fun k => k = id) H (H ++ [⟨[.int .u64 l], true, true⟩]) := Same.of_prefix hp0
    generalize H ++ [(⟨[.int .u64 l], true, true⟩ : Blk)] = H0 at hp0 hz0 hA0 hS0 ⊢
    refine nextPow_ok (by omega) (by omega) _ ?_
    intro m hm0 hm
    obtain ⟨m1, hm1⟩ : ∃ m1, m1 = m - 1 := ⟨_, rfl⟩
    have w7 : IntKind.u64.wrap ((m : Int) - 1) = (m1 : Int) := by rw [hm1, IntKind.wrap_u64]; omega
    simp (maxSteps := 1000000) [go_sem, w1, w2, w3, w4]
    refine AWp.loopVc (St := Nat × Array (Int × Int) × Int) (fun s => [(0, lv 2 id 0 n), (1, .int .i64 a), (8, .int .i64 l), (9, .pointer (some ⟨H.length, 0, none⟩)), (10, .int .u64 m), (11, .int .i64 s.1)])
      (fun s H' => i0 ≤ s.1 ∧ s.1 ≤ i0 + 3 ∧ s.2.1.size = n ∧ QA Q s.2.1 ∧ Same (fun k => k = id) H H' ∧ Arr cellsP H' id s.2.1 ∧ PermIn a b d s.2.1 ∧ H'[H.length]? = some ⟨[.int .u64 s.2.2], true, true⟩) (fun s => i0 + 3 - s.1) (i0, d, (l : Int)) ?_ ?_ ?_
    · simp [upF, Fr.get, Up.refl]
    · exact ⟨Nat.le_refl _, by simp only; omega, hn, hQ, hS0, hA0, permIn_refl _ _ _, hz0⟩
    · rintro K ⟨i, d1, z⟩ H1 ⟨hi1, hi2, hsz, hQ1, hS1, hA1, hP, hz⟩ hK
      simp only at hi1 hi2 hsz hQ1 hS1 hA1 hP hz
      by_cases hi3 : i ≤ i0 + 2
      · have hi3' : (i : Int) ≤ (i0 : Int) + 2 := by omega
        have hw_i : IntKind.i64.wrap ((i : Int) + 1) = (i : Int) + 1 := i64w (by omega) (by omega)
        simp (maxSteps := 1000000) [go_sem, w1, w2, w3, w5, hi3, hi3']
        refine xorNext_ok hz _ ?_
        intro z' H2 hzl hS2 hz2
        have hA2 : Arr cellsP H2 id d1 := hS2.get hA1 (by omega)
        have hS2' : Same (fun k => k = id) H H2 := hS1.via hS2 (by intro j hj e; omega)
        obtain ⟨o, ho⟩ : ∃ o, o = (z' % 2 ^ 64) &&& m1 := ⟨_, rfl⟩
        have hol : o ≤ m1 := by rw [ho]; exact Nat.and_le_right
        have hand := and_u64r (a := z') (b := m1) (by omega)
        rw [← ho] at hand
        have w8 : IntKind.i64.wrap (o : Int) = o := i64w (by omega) (by omega)
        have fin : ∀ (o2 : Nat), o2 < l → ∀ (H3 : Heap), H3 = H2 → Same (fun k => k = id) H H3 := fun _ _ H3 e => e ▸ hS2'
        by_cases hol2 : l ≤ o
        · have hol2' : (l : Int) ≤ o := by omega
          obtain ⟨o2, ho2⟩ : ∃ o2, o2 = o - l := ⟨_, rfl⟩
          have w9 : IntKind.i64.wrap ((o : Int) - l) = (o2 : Int) := by rw [ho2, i64w (by omega) (by omega)]; omega
          have hlt : o2 < l := by omega
          simp (maxSteps := 1000000) [go_sem, w7, hand, w8, hol2, hol2', w9]
          obtain ⟨ao, hao⟩ : ∃ ao, ao = a + o2 := ⟨_, rfl⟩
          have wa : IntKind.i64.wrap ((a : Int) + o2) = (ao : Int) := by rw [hao, i64w (by omega) (by omega)]; omega
          have u1 : i < (d1).size := by omega
          have u2 : ao < (d1).size := by omega
          have u3 : i < n := by omega
          have u4 : ao < n := by omega
          have uca := (hA2).load cellsP_len u1
          have ucb := (hA2).load cellsP_len u2
          obtain ⟨H5, H6, us1, us0, hA6, hS6, ul⟩ := (hA2).swap cellsP_len cellsP_one u1 u2
          obtain ⟨ux, uhx⟩ : ∃ x, x = (d1)[i]! := ⟨_, rfl⟩
          obtain ⟨uy, uhy⟩ : ∃ y, y = (d1)[ao]! := ⟨_, rfl⟩
          rw [← uhx] at uca us0
          rw [← uhy] at ucb us1
          simp only [cellsP, Nat.mul_one, Row.val] at uca ucb us0 us1
          refine AWp.draw mixed [(0, false), (1, false), (2, false), (3, false), (4, false), (5, false), (6, false), (7, false), (8, false), (9, false), (10, false), (11, false), (12, false), (13, false), (14, false), (15, false), (16, false), (17, false), (18, false), (19, false)] (by kernel_rfl) ?_
          simp (maxSteps := 1000000) [go_sem, wa, uca, ucb, u3, u4, us1, us0, hw_i]
          have hz6 := hS6.get hz2 (by omega)
          exact hK (i + 1, swp d1 i ao, (z' : Int)) _ _ (by simp only; omega) (by simp [upF, Fr.get, Up.refl]) ⟨by simp only; omega, by simp only; omega, by rw [size_swp]; exact hsz, hQ1.swp u1 u2, hS2'.trans hS6, hA6, permIn_trans _ _ _ a b hP (swp_permIn d1 a b i ao (by omega) (by omega) (by omega) (by omega) (by omega)), hz6⟩
        · have hol2' : ¬ ((l : Int) ≤ o) := by omega
          have hlt : o < l := by omega
          simp (maxSteps := 1000000) [go_sem, w7, hand, w8, hol2, hol2']
          obtain ⟨ao, hao⟩ : ∃ ao, ao = a + o := ⟨_, rfl⟩
          have wa : IntKind.i64.wrap ((a : Int) + o) = (ao : Int) := by rw [hao, i64w (by omega) (by omega)]; omega
          have u1 : i < (d1).size := by omega
          have u2 : ao < (d1).size := by omega
          have u3 : i < n := by omega
          have u4 : ao < n := by omega
          have uca := (hA2).load cellsP_len u1
          have ucb := (hA2).load cellsP_len u2
          obtain ⟨H5, H6, us1, us0, hA6, hS6, ul⟩ := (hA2).swap cellsP_len cellsP_one u1 u2
          obtain ⟨ux, uhx⟩ : ∃ x, x = (d1)[i]! := ⟨_, rfl⟩
          obtain ⟨uy, uhy⟩ : ∃ y, y = (d1)[ao]! := ⟨_, rfl⟩
          rw [← uhx] at uca us0
          rw [← uhy] at ucb us1
          simp only [cellsP, Nat.mul_one, Row.val] at uca ucb us0 us1
          refine AWp.draw mixed [(0, false), (1, false), (2, false), (3, false), (4, false), (5, false), (6, false), (7, false), (8, false), (9, false), (10, false), (11, false), (12, false), (13, false), (14, false), (15, false), (16, false), (17, false), (18, false), (19, false)] (by kernel_rfl) ?_
          simp (maxSteps := 1000000) [go_sem, wa, uca, ucb, u3, u4, us1, us0, hw_i]
          have hz6 := hS6.get hz2 (by omega)
          exact hK (i + 1, swp d1 i ao, (z' : Int)) _ _ (by simp only; omega) (by simp [upF, Fr.get, Up.refl]) ⟨by simp only; omega, by simp only; omega, by rw [size_swp]; exact hsz, hQ1.swp u1 u2, hS2'.trans hS6, hA6, permIn_trans _ _ _ a b hP (swp_permIn d1 a b i ao (by omega) (by omega) (by omega) (by omega) (by omega)), hz6⟩
      · have hi3' : ¬ ((i : Int) ≤ (i0 : Int) + 2) := by omega
        simp (maxSteps := 1000000) [go_sem, w1, w2, w3, w5, hi3, hi3']
        exact h H1 d1 hS1 hA1 hQ1 hP
  · have h8' : ¬ ((8 : Int) ≤ l) := by omega
    have fin := h H d (Same.refl _ _) hA hQ (permIn_refl _ _ _)
    simp (maxSteps := 1000000) [go_sem, w0, h8, h8']
    exact fin

end Go.Proofs.Ytdfeoccjllljiaa
end

section
/- Sorting by a function: pdqsort. -/
set_option linter.all false
set_option maxRecDepth 20000
set_option maxHeartbeats 8000000
namespace Go.Proofs.Ytdfeoccjllljiaa
open Go.Ab Go.Sort

theorem pdqP_ok {lt : (Int × Int) → (Int × Int) → Bool} {g : FuncId} {fs cs : List Value} {Q : (Int × Int) → Prop} {n : Nat} (hS : SWO lt) (hl : n ≤ 1048576) : ∀ (N : Nat) {H : Heap} {id a b limit : Nat} {d : Array (Int × Int)}, b - a ≤ N → Arr cellsP H id d → d.size = n → a ≤ b → b ≤ n → limit ≤ 64 → Below lt a b d → QA Q d →
    Cmp Try.prog valP lt g fs cs Q id H → ∀ (Post : Value → Heap → Prop), (∀ H' d', Same (fun k => k = id) H H' → Arr cellsP H' id d' → PermIn a b d d' → SortedIn lt a b d' → Post (.tuple #[]) H') →
    ACalls Try.prog 202 [lv 2 id 0 n, .int .i64 a, .int .i64 b, .int .i64 limit, .func (.func g) fs.toArray cs.toArray] H Post := by
  intro N
  induction N using Nat.strongRecOn with
  | _ N ih =>
  intro H id a b limit d hN hA hn hab hb hlim hBel hQ hC Post h
  refine acalls_vc (rs := []) Try.func202 rfl rfl Try.ntmps202 rfl rfl ?_
  simp (maxSteps := 1000000) [go_sem]
  refine AWp.loopA (St := Nat × Nat × Nat × Bool × Bool × Array (Int × Int)) (fun s => [(0, lv 2 id 0 n), (1, .int .i64 s.1), (2, .int .i64 s.2.1), (3, .int .i64 s.2.2.1), (4, .func (.func g) fs.toArray cs.toArray), (10, .bool s.2.2.2.1), (11, .bool s.2.2.2.2.1)])
    (fun s H' => a ≤ s.1 ∧ s.1 ≤ s.2.1 ∧ s.2.1 ≤ b ∧ s.2.2.1 ≤ 64 ∧ s.2.2.2.2.2.size = n ∧ QA Q s.2.2.2.2.2 ∧ Same (fun k => k = id) H H' ∧ Arr cellsP H' id s.2.2.2.2.2 ∧ Below lt s.1 s.2.1 s.2.2.2.2.2 ∧
      ∀ R, PermIn s.1 s.2.1 s.2.2.2.2.2 R → SortedIn lt s.1 s.2.1 R → PermIn a b d R ∧ SortedIn lt a b R) (fun s => s.2.1 - s.1) (a, b, limit, true, true, d) ?_ ?_ ?_
  · simp [upF, Fr.get, Up.refl]
  · exact ⟨Nat.le_refl _, hab, Nat.le_refl _, hlim, hn, hQ, Same.refl _ _, hA, hBel, fun R h1 h2 => ⟨h1, h2⟩⟩
  · rintro K ⟨a1, b1, li, wb, wp, d1⟩ H1 ⟨haa, hab1, hbb, hli, hsz, hQ1, hS1, hA1, hB1, hfin⟩ hK
    simp only at haa hab1 hbb hli hsz hQ1 hS1 hA1 hB1 hfin
    obtain ⟨l, hll⟩ : ∃ l, l = b1 - a1 := ⟨_, rfl⟩
    have w0 : IntKind.i64.wrap ((b1 : Int) - a1) = (l : Int) := by rw [hll, i64w (by omega) (by omega)]; omega
    refine AWp.block ?_
    -- the length
    refine AWp.ofVc ?_
    simp (maxSteps := 1000000) [go_sem, w0]
    by_cases h12 : l ≤ 12
    · have h12' : (l : Int) ≤ 12 := by omega
      refine AWp.ofVc ?_
      simp (maxSteps := 1000000) [go_sem, h12, h12']
      refine insP_ok hA1 hsz hl (by omega) (by omega) hQ1 (hC.keep hS1) _ ?_
      intro H2 hS2 hA2
      obtain ⟨f1, f2⟩ := insertionSort_holds hS d1 a1 b1 (by omega) (by omega)
      obtain ⟨f3, f4⟩ := hfin _ f1 f2
      have fin := h H2 _ (hS1.trans hS2) hA2 f3 f4
      simp (maxSteps := 1000000) [go_sem]
      exact fin
    have h12' : ¬ ((l : Int) ≤ 12) := by omega
    refine AWp.ofVc ?_
    simp (maxSteps := 1000000) [go_sem, h12, h12']
    by_cases hl0 : li = 0
    · subst hl0
      refine AWp.ofVc ?_
      simp (maxSteps := 1000000) [go_sem]
      refine heapP_ok hA1 hsz hl (by omega) (by omega) hQ1 (hC.keep hS1) _ ?_
      intro H2 hS2 hA2
      obtain ⟨f1, f2⟩ := heapSort_holds hS d1 a1 b1 (by omega) (by omega)
      obtain ⟨f3, f4⟩ := hfin _ f1 f2
      have fin := h H2 _ (hS1.trans hS2) hA2 f3 f4
      simp (maxSteps := 1000000) [go_sem]
      exact fin
    have hl0' : ((li : Int) == 0) = false := by rw [beq_eq_false_iff_ne]; omega
    refine AWp.ofVc ?_
    simp (maxSteps := 1000000) [go_sem, hl0, hl0']
    -- the patterns
    refine AWp.seqCut (St := Nat × Array (Int × Int)) (fun s => [(0, lv 2 id 0 n), (1, .int .i64 a1), (2, .int .i64 b1), (3, .int .i64 s.1), (4, .func (.func g) fs.toArray cs.toArray), (10, .bool wb), (11, .bool wp), (12, .int .i64 l)])
      (fun s H' => s.1 ≤ 64 ∧ QA Q s.2 ∧ Same (fun k => k = id) H H' ∧ Arr cellsP H' id s.2 ∧ PermIn a1 b1 d1 s.2) ?_ ?_
    · intro KE hKE
      cases wb with
      | true =>
        simp (maxSteps := 1000000) [go_sem]
        exact hKE (li, d1) _ _ (by simp [upF, Fr.get, Up.refl]) ⟨hli, hQ1, hS1, hA1, permIn_refl _ _ _⟩
      | false =>
        obtain ⟨lj, hlj⟩ : ∃ lj, lj = li - 1 := ⟨_, rfl⟩
        have wl : IntKind.i64.wrap ((li : Int) - 1) = (lj : Int) := by rw [hlj, i64w (by omega) (by omega)]; omega
        simp (maxSteps := 1000000) [go_sem]
        refine breakP_ok hA1 hsz hl (by omega) (by omega) hQ1 _ ?_
        intro H2 d2 hS2 hA2 hQ2 hP2
        simp (maxSteps := 1000000) [go_sem, wl]
        exact hKE (lj, d2) _ _ (by simp [upF, Fr.get, Up.refl]) ⟨by simp only; omega, hQ2, hS1.trans hS2, hA2, hP2⟩
    rintro ⟨lj, d2⟩ H2 ⟨hlj, hQ2, hS2, hA2, hP2⟩
    simp only at hlj hQ2 hS2 hA2 hP2 ⊢
    have hsz2 : d2.size = n := by rw [hP2.1]; exact hsz
    -- the pivot
    refine AWp.ofVc ?_
    simp (maxSteps := 1000000) [go_sem]
    refine pivotP_ok hA2 hsz2 hl (by omega) (by omega) hQ2 (hC.keep hS2) _ ?_
    intro H3 p t hp3 hpr
    have hS3 := hS2.via (Same.of_prefix (S := fun _ => False) hp3) (fun _ _ h => h.elim)
    have hA3 := hA2.pre hp3
    simp (maxSteps := 1000000) [go_sem]
    refine AWp.seqCut (St := Nat × Int × Array (Int × Int)) (fun s => [(0, lv 2 id 0 n), (1, .int .i64 a1), (2, .int .i64 b1), (3, .int .i64 lj), (4, .func (.func g) fs.toArray cs.toArray), (10, .bool wb), (11, .bool wp), (12, .int .i64 l), (13, .int .i64 s.1), (14, .int .i64 s.2.1)])
      (fun s H' => a1 ≤ s.1 ∧ s.1 < b1 ∧ QA Q s.2.2 ∧ Same (fun k => k = id) H H' ∧ Arr cellsP H' id s.2.2 ∧ PermIn a1 b1 d2 s.2.2) ?_ ?_
    · intro KE hKE
      by_cases ht : t = 2
      · subst ht
        obtain ⟨p2, hp2⟩ : ∃ p2, p2 = b1 - 1 - (p - a1) := ⟨_, rfl⟩
        have w1 : IntKind.i64.wrap ((b1 : Int) - 1) = (b1 : Int) - 1 := i64w (by omega) (by omega)
        have w2 : IntKind.i64.wrap ((p : Int) - a1) = (p : Int) - a1 := i64w (by omega) (by omega)
        have w3 : IntKind.i64.wrap ((b1 : Int) - 1 - ((p : Int) - a1)) = (p2 : Int) := by rw [hp2, i64w (by omega) (by omega)]; omega
        simp (maxSteps := 1000000) [go_sem]
        refine reverseP_ok hA3 hsz2 hl (by omega) (by omega) _ ?_
        intro H4 hS4 hA4
        have hP4 := reverseRange_holds d2 a1 b1 (by omega) (by omega)
        simp (maxSteps := 1000000) [go_sem, w1, w2, w3]
        exact hKE (p2, 1, reverseRange d2 a1 b1) _ _ (by simp [upF, Fr.get, Up.refl]) ⟨by simp only; omega, by simp only; omega, QA_perm (by omega) hP4 hQ2, hS3.trans hS4, hA4, hP4⟩
      · have ht' : (t == 2) = false := by rw [beq_eq_false_iff_ne]; exact ht
        simp (maxSteps := 1000000) [go_sem, ht, ht']
        exact hKE (p, t, d2) _ _ (by simp [upF, Fr.get, Up.refl]) ⟨hpr.1, hpr.2, hQ2, hS3, hA3, permIn_refl _ _ _⟩
    rintro ⟨q, u, d3⟩ H4 ⟨hq1, hq2, hQ3, hS4, hA4, hP3⟩
    simp only at hq1 hq2 hQ3 hS4 hA4 hP3 ⊢
    have hsz3 : d3.size = n := by rw [hP3.1]; exact hsz2
    have hP13 := permIn_trans _ _ _ _ _ hP2 hP3
    have hB3 : Below lt a1 b1 d3 := hB1.perm (by omega) hP13
    -- it may be sorted
    refine AWp.seqCut (St := Array (Int × Int)) (fun _ => [(0, lv 2 id 0 n), (1, .int .i64 a1), (2, .int .i64 b1), (3, .int .i64 lj), (4, .func (.func g) fs.toArray cs.toArray), (10, .bool wb), (11, .bool wp), (12, .int .i64 l), (13, .int .i64 q)])
      (fun d4 H' => QA Q d4 ∧ Same (fun k => k = id) H H' ∧ Arr cellsP H' id d4 ∧ PermIn a1 b1 d1 d4) ?_ ?_
    · intro KE hKE
      have skip := fun fr' hfr => hKE d3 fr' H4 hfr ⟨hQ3, hS4, hA4, hP13⟩
      cases wb with
      | false =>
        simp (maxSteps := 1000000) [go_sem, undef]
        exact skip _ (by simp [upF, Fr.get, Up.refl])
      | true =>
        cases wp with
        | false =>
          simp (maxSteps := 1000000) [go_sem, undef]
          exact skip _ (by simp [upF, Fr.get, Up.refl])
        | true =>
          by_cases hu : u = 1
          · subst hu
            simp (maxSteps := 1000000) [go_sem]
            refine partInsP_ok hA4 hsz3 hl (by omega) (by omega) hQ3 (hC.keep hS4) _ ?_
            intro H6 hS6 hA6
            obtain ⟨f1, f2⟩ := partialInsertionSort_holds hS d3 a1 b1 (by omega) (by omega) hB3
            generalize partialInsertionSort lt d3 a1 b1 = r at *
            obtain ⟨d4, ok⟩ := r
            simp only at hA6 f1 f2 ⊢
            have hP14 := permIn_trans _ _ _ _ _ hP13 f1
            cases ok with
            | true =>
              obtain ⟨f3, f4⟩ := hfin _ hP14 (f2 rfl)
              have fin := h H6 _ (hS4.trans hS6) hA6 f3 f4
              simp (maxSteps := 1000000) [go_sem]
              exact fin
            | false =>
              simp (maxSteps := 1000000) [go_sem]
              exact hKE d4 _ _ (by simp [upF, Fr.get, Up.refl]) ⟨QA_perm (by omega) f1 hQ3, hS4.trans hS6, hA6, hP14⟩
          · have hu' : (u == 1) = false := by rw [beq_eq_false_iff_ne]; exact hu
            simp (maxSteps := 1000000) [go_sem, hu, hu']
            exact skip _ (by simp [upF, Fr.get, Up.refl])
    rintro d4 H6 ⟨hQ4, hS6, hA6, hP4⟩
    clear hA4 hA3 hA2 hS2 hS3 hS4 hP2 hP3 hP13 hQ2 hQ3 hB3
    have hsz4 : d4.size = n := by rw [hP4.1]; exact hsz
    have hB4 : Below lt a1 b1 d4 := hB1.perm (by omega) hP4
    have hfin4 : ∀ R, PermIn a1 b1 d4 R → SortedIn lt a1 b1 R → PermIn a b d R ∧ SortedIn lt a b R := fun R r1 r2 => hfin R (permIn_trans _ _ _ _ _ hP4 r1) r2
    -- the element ahead
    refine AWp.seqCut (St := Unit) (fun _ => [(0, lv 2 id 0 n), (1, .int .i64 a1), (2, .int .i64 b1), (3, .int .i64 lj), (4, .func (.func g) fs.toArray cs.toArray), (10, .bool wb), (11, .bool wp), (12, .int .i64 l), (13, .int .i64 q)])
      (fun _ H' => Same (fun k => k = id) H H' ∧ Arr cellsP H' id d4) ?_ ?_
    · intro KE hKE
      by_cases ha0 : a1 = 0
      · subst ha0
        simp (maxSteps := 1000000) [go_sem]
        refine AWp.draw mixed [(0, false), (1, false), (2, false), (3, false), (4, false), (5, false), (6, false), (7, false), (8, false), (9, false), (10, false), (11, false), (12, false), (13, false), (14, false), (15, false), (16, false)] (by kernel_rfl) ?_
        simp (maxSteps := 1000000) [go_sem, undef]
        exact hKE () _ _ (by simp [upF, Fr.get, Up.refl]) ⟨hS6, hA6⟩
      · obtain ⟨r, hr⟩ : ∃ r, a1 - 1 = r := ⟨_, rfl⟩
        have wr : IntKind.i64.wrap ((a1 : Int) - 1) = (r : Int) := by rw [← hr, i64w (by omega) (by omega)]; omega
        have ha0' : (0 : Int) < a1 := by omega
        have ha1' : 0 < a1 := by omega
        have hi1 : r < d4.size := by omega
        have hi0 : q < d4.size := by omega
        have n1 : r < n := by omega
        have n0 : q < n := by omega
        have c1 := hA6.load cellsP_len hi1
        have c0 := hA6.load cellsP_len hi0
        have q1 := hQ4 _ hi1
        have q0 := hQ4 _ hi0
        obtain ⟨x, hx⟩ : ∃ x, d4[r]! = x := ⟨_, rfl⟩
        obtain ⟨y, hy⟩ : ∃ y, d4[q]! = y := ⟨_, rfl⟩
        rw [hx] at c1 q1
        rw [hy] at c0 q0
        simp only [cellsP, Nat.mul_one, Row.val] at c1 c0
        simp (maxSteps := 1000000) [go_sem]
        refine AWp.draw mixed [(0, false), (1, false), (2, false), (3, false), (4, false), (5, false), (6, false), (7, false), (8, false), (9, false), (10, false), (11, false), (12, false), (13, false), (14, false), (15, false), (16, false)] (by kernel_rfl) ?_
        simp (maxSteps := 1000000) [go_sem, ha0, ha0', ha1', c1, c0, n1, n0, wr]
        refine hC H6 x y _ hS6 q1 q0 ?_
        intro H7 c hp7 hc
        have hS7 := hS6.via (Same.of_prefix (S := fun _ => False) hp7) (fun _ _ h => h.elim)
        have hA7 := hA6.pre hp7
        cases hl' : lt x y with
        | true =>
          rw [hl'] at hc
          have hc0 := hc
          simp only [decide_eq_true_eq, decide_eq_false_iff_not] at hc0
          simp (maxSteps := 1000000) [go_sem, hc, hc0]
          exact hKE () _ _ (by simp [upF, Fr.get, Up.refl]) ⟨hS7, hA7⟩
        | false =>
          rw [hl'] at hc
          have hc0 := hc
          simp only [decide_eq_true_eq, decide_eq_false_iff_not] at hc0
          have hnl : lt d4[a1 - 1]! d4[q]! = false := by rw [hr, hx, hy]; exact hl'
          simp (maxSteps := 1000000) [go_sem, hc, hc0]
          refine partEqP_ok hA7 hsz4 hl hq1 hq2 (by omega) hQ4 (hC.keep hS7) _ ?_
          intro H8 hS8 hA8
          obtain ⟨⟨mid, d5⟩, he⟩ : ∃ r, partitionEqual lt d4 a1 b1 q = r := ⟨_, rfl⟩
          rw [he] at hA8 ⊢
          have hA8 : Arr cellsP H8 id d5 := hA8
          obtain ⟨r1, r2, r3, r4, r5⟩ := round_eq hS (partitionEqual_holds lt) ha1' hq1 hq2 (by omega) hB4 hnl he
          have hP5 : PermIn a1 b1 d4 d5 := by
            have := (partitionEqual_holds lt hS d4 a1 b1 q hq1 hq2 (by omega) (fun i hi hi' => by
              rcases hB4 with h0 | hB
              · omega
              · exact hS.ntrans _ _ _ (hB i hi hi') hnl)).2.2.1
            rw [he] at this; exact this
          simp (maxSteps := 1000000) [go_sem]
          exact hK (mid, b1, lj, wb, wp, d5) _ _ (by simp only; omega) (by simp [upF, Fr.get, Up.refl]) ⟨by simp only; omega, r2, hbb, hlj, by simp only; omega, QA_perm (by omega) hP5 hQ4, hS7.trans hS8, hA8, r4, fun R R1 R2 => by obtain ⟨g1, g2⟩ := r5 R R1 R2; exact hfin4 R g1 g2⟩
    rintro _ H7 ⟨hS7, hA7⟩
    refine AWp.ofVc ?_
    simp (maxSteps := 1000000) [go_sem]
    refine partP_ok hA7 hsz4 hl hq1 hq2 (by omega) hQ4 (hC.keep hS7) _ ?_
    intro H8 hS8 hA8
    obtain ⟨⟨mid, ap, d5⟩, he⟩ : ∃ r, partition lt d4 a1 b1 q = r := ⟨_, rfl⟩
    rw [he] at hA8 ⊢
    have hA8 : Arr cellsP H8 id d5 := hA8
    obtain ⟨r1, r2, r3, r4, r5, r6, r7⟩ := round_part hS (partition_holds lt) hq1 hq2 (by omega) hB4 he
    have hP5 : PermIn a1 b1 d4 d5 := by
      have := (partition_holds lt hS d4 a1 b1 q hq1 hq2 (by omega)).2.2.1
      rw [he] at this; exact this
    have hQ5 := QA_perm (by omega) hP5 hQ4
    have hS8 := hS7.trans hS8
    obtain ⟨ll, hll2⟩ : ∃ ll, ll = mid - a1 := ⟨_, rfl⟩
    obtain ⟨lr, hlr⟩ : ∃ lr, lr = b1 - mid := ⟨_, rfl⟩
    obtain ⟨m1, hm1⟩ : ∃ m1, m1 = mid + 1 := ⟨_, rfl⟩
    have w1 : IntKind.i64.wrap ((mid : Int) - a1) = (ll : Int) := by rw [hll2, i64w (by omega) (by omega)]; omega
    have w2 : IntKind.i64.wrap ((b1 : Int) - mid) = (lr : Int) := by rw [hlr, i64w (by omega) (by omega)]; omega
    have w3 : IntKind.i64.wrap ((l : Int) / 8) = (l : Int) / 8 := i64w (by omega) (by omega)
    have w4 : IntKind.i64.wrap ((mid : Int) + 1) = (m1 : Int) := by rw [hm1, i64w (by omega) (by omega)]; omega
    simp (maxSteps := 1000000) [go_sem]
    refine vc_sound _ _ _ _ ?_
    by_cases hlr2 : ll < lr
    · have hlr2' : (ll : Int) < lr := by omega
      simp (maxSteps := 1000000) [go_sem, w1, w2, w3, hlr2, hlr2']
      refine ih (mid - a1) (by omega) (Nat.le_refl _) hA8 (by omega) r1 (by omega) hlj r4 hQ5 (hC.keep hS8) _ ?_
      intro H9 d6 hS9 hA9 hP6 hs6
      obtain ⟨g1, g2⟩ := r6 d6 hP6 hs6
      simp (maxSteps := 1000000) [go_sem, w4]
      refine hK (m1, b1, lj, decide ((l : Int) / 8 ≤ ll), ap, d6) _ _ (by simp only; omega) (by simp [upF, Fr.get, Up.refl]) ⟨by simp only; omega, by simp only; omega, hbb, hlj, by simp only; rw [hP6.1]; omega, QA_perm (by omega) hP6 hQ5, hS8.trans hS9, hA9, by simp only [hm1]; exact g1, ?_⟩
      simp only [hm1]
      intro R R1 R2
      obtain ⟨k1, k2⟩ := g2 R R1 R2
      exact hfin4 R k1 k2
    · have hlr2' : ¬ ((ll : Int) < lr) := by omega
      simp (maxSteps := 1000000) [go_sem, w1, w2, w3, w4, hlr2, hlr2']
      refine ih (b1 - m1) (by omega) (Nat.le_refl _) hA8 (by omega) (by omega) (by omega) hlj (by rw [hm1]; exact r5) hQ5 (hC.keep hS8) _ ?_
      intro H9 d6 hS9 hA9 hP6 hs6
      rw [hm1] at hP6 hs6
      obtain ⟨g1, g2⟩ := r7 d6 hP6 hs6
      simp (maxSteps := 1000000) [go_sem]
      refine hK (a1, mid, lj, decide ((l : Int) / 8 ≤ lr), ap, d6) _ _ (by simp only; omega) (by simp [upF, Fr.get, Up.refl]) ⟨haa, r1, by simp only; omega, hlj, by simp only; rw [hP6.1]; omega, QA_perm (by omega) hP6 hQ5, hS8.trans hS9, hA9, g1, ?_⟩
      intro R R1 R2
      obtain ⟨k1, k2⟩ := g2 R R1 R2
      exact hfin4 R k1 k2

end Go.Proofs.Ytdfeoccjllljiaa
end

section
/- Sorting by a function: slices.SortFunc. -/
set_option linter.all false
set_option maxRecDepth 20000
set_option maxHeartbeats 8000000
namespace Go.Proofs.Ytdfeoccjllljiaa
open Go.Ab Go.Sort

theorem w64_0P : IntKind.i64.wrap 0 = 0 := i64w (by omega) (by omega)
theorem w64_1P : IntKind.i64.wrap 1 = 1 := i64w (by omega) (by omega)
theorem wu64_0P : IntKind.u64.wrap 0 = 0 := by rw [IntKind.wrap_u64]; omega
theorem ins0P_ok {H : Heap} {id : Nat} {fv : Value} (Post : Value → Heap → Prop) (h : Post (.tuple #[]) H) :
    ACalls Try.prog 216 [lv 2 id 0 0, .int .i64 0, .int .i64 0, fv] H Post := by
  refine acalls_vc (rs := []) Try.func216 rfl rfl Try.ntmps216 rfl rfl ?_
  simp (maxSteps := 1000000) [go_sem, w64_0P, w64_1P]
  refine AWp.loopVc (St := Unit) (fun _ => [(2, .int .i64 0), (8, .int .i64 1)]) (fun _ H' => H' = H) (fun _ => 0) () ?_ ?_ ?_
  · simp [upF, Fr.get, Up.refl]
  · rfl
  · rintro K _ H' rfl hK
    simp (maxSteps := 1000000) [go_sem, w64_0P, w64_1P]
    exact h
theorem pdq0P_ok {H : Heap} {id : Nat} {fv : Value} {l : Int} (Post : Value → Heap → Prop) (h : Post (.tuple #[]) H) :
    ACalls Try.prog 202 [lv 2 id 0 0, .int .i64 0, .int .i64 0, .int .i64 l, fv] H Post := by
  refine acalls_vc (rs := []) Try.func202 rfl rfl Try.ntmps202 rfl rfl ?_
  simp (maxSteps := 1000000) [go_sem, w64_0P, w64_1P]
  refine AWp.loopA (St := Unit) (fun _ => [(0, lv 2 id 0 0), (1, .int .i64 0), (2, .int .i64 0), (4, fv)]) (fun _ H' => H' = H) (fun _ => 0) () ?_ ?_ ?_
  · simp [upF, Fr.get, Up.refl]
  · rfl
  · rintro K _ H' rfl hK
    refine AWp.block ?_
    refine AWp.ofVc ?_
    simp (maxSteps := 1000000) [go_sem, w64_0P, w64_1P]
    refine AWp.ofVc ?_
    simp (maxSteps := 1000000) [go_sem, w64_0P, w64_1P]
    refine ins0P_ok _ ?_
    simp (maxSteps := 1000000) [go_sem, w64_0P, w64_1P]
    exact h

/-- slices.SortFunc: afterwards the same elements are there, ascending. -/
theorem sortFuncP_ok {H : Heap} {id n : Nat} {l : List (Int × Int)} {lt : (Int × Int) → (Int × Int) → Bool} {g : FuncId} {fs cs : List Value} {Q : (Int × Int) → Prop} (hS : SWO lt) (hA : OL 2 H id (l.flatMap cellsP) n) (hn : l.length = n) (hl : n ≤ 1048576) (hQ : ∀ x ∈ l, Q x)
    (hC : Cmp Try.prog valP lt g fs cs Q id H) (Post : Value → Heap → Prop)
    (h : ∀ (H' : Heap) (l' : List (Int × Int)), Same (fun k => k = id) H H' → OL 2 H' id (l'.flatMap cellsP) n → l'.Perm l → l'.Pairwise (fun x y => lt y x = false) → Post (.tuple #[]) H') :
    ACalls Try.prog 186 [lv 2 id 0 n, .func (.func g) fs.toArray cs.toArray] H Post := by
  refine acalls_vc (rs := []) Try.func186 rfl rfl Try.ntmps186 rfl rfl ?_
  have w1 : IntKind.u64.wrap (n : Int) = n := by rw [IntKind.wrap_u64]; omega
  rcases hA.2 with ⟨h0, hg⟩ | hb
  · subst h0
    have hnil : l = [] := List.eq_nil_of_length_eq_zero hn
    subst hnil
    simp (maxSteps := 1000000) [go_sem, wu64_0P]
    refine bitsLenC_ok (x := 0) (by omega) _ ?_
    simp (maxSteps := 1000000) [go_sem]
    refine pdq0P_ok _ ?_
    simp (maxSteps := 1000000) [go_sem]
    exact h H [] (Same.refl _ _) hA (List.Perm.refl _) List.Pairwise.nil
  · have hA' : Arr cellsP H id l.toArray := by unfold Arr; simpa using hb
    have hQ' : QA Q l.toArray := by
      intro k hk
      rw [getElem!_pos l.toArray k hk]
      exact hQ _ (by simp)
    simp (maxSteps := 1000000) [go_sem, w1]
    refine bitsLenC_ok (by omega) _ ?_
    have hb64 : bitsLen n ≤ 64 := bitsLen_lt (by omega)
    simp (maxSteps := 1000000) [go_sem]
    refine pdqP_ok hS hl n (a := 0) (limit := bitsLen n) (by omega) hA' (by simpa using hn) (Nat.zero_le _) (Nat.le_refl _) hb64 (.inl rfl) hQ' hC _ ?_
    intro H' d' hS' hA2 hP hs
    have hsz : d'.size = n := by rw [hP.1]; simpa using hn
    have hp := perm_list (by simpa using hn) hP
    have fin := h H' d'.toList hS' ⟨by rw [flat_len cellsP_len, Array.length_toList, hsz], .inr hA2⟩ (by simpa using hp) (sorted_list hsz hs)
    simp (maxSteps := 1000000) [go_sem]
    exact fin

end Go.Proofs.Ytdfeoccjllljiaa
end

section
/- Trades: the tested program's side of the pairs. -/
set_option linter.all false
set_option maxRecDepth 20000
set_option maxHeartbeats 4000000
namespace Go.Proofs.Ytdfeoccjllljiaa
open Go.Ab Go.Sort

theorem intsOf2 (a b : Int) : intsOf .i64 [.int .i64 a, .int .i64 b] = some [a, b] := by simp [intsOf]
attribute [go_sem] intsOf2

theorem lexC_pair (x y : Int × Int) : decide (lexC [x.1, x.2] [y.1, y.2] < 0) = ltP x y := by
  have e : lexC [x.1, x.2] [y.1, y.2] = if x.1 < y.1 then -1 else if y.1 < x.1 then 1 else if x.2 < y.2 then -1 else if y.2 < x.2 then 1 else 0 := rfl
  rw [e]
  cases h : ltP x y with
  | true =>
    rw [ltP_iff] at h
    split
    · rfl
    · split
      · omega
      · split
        · rfl
        · omega
  | false =>
    rw [ltP_false] at h
    split
    · omega
    · split
      · rfl
      · split
        · omega
        · split <;> rfl
theorem swoP : SWO ltP := by
  refine ⟨fun x => ?_, fun x y z h1 h2 => ?_, fun x y z h1 h2 => ?_⟩
  · rw [ltP_false]; omega
  · rw [ltP_iff] at *; omega
  · rw [ltP_false] at *; omega

theorem pairsCmp {id : Nat} {H : Heap} : Cmp Try.prog valP ltP 187 [] [] (fun _ => True) id H := by
  intro H x y Post _ _ _ h
  have hp0 : H <+: H ++ [⟨[.int .i64 x.1, .int .i64 x.2], true, true⟩, ⟨[.int .i64 y.1, .int .i64 y.2], true, true⟩] := List.prefix_append _ _
  have fin := h _ (lexC [x.1, x.2] [y.1, y.2]) hp0 (lexC_pair x y)
  show ACalls Try.prog 187 [valP x, valP y] H Post
  refine acalls_vc (rs := [.tmp 4]) Try.func187 rfl rfl Try.ntmps187 rfl rfl ?_
  simp (maxSteps := 1000000) [go_sem, valP]
  refine AWp.draw mixed [(0, false), (1, false), (2, false), (3, false)] (by kernel_rfl) ?_
  simp (maxSteps := 1000000) [go_sem]
  have ha : Holds (H ++ [⟨[.int .i64 x.1, .int .i64 x.2], true, true⟩, ⟨[.int .i64 y.1, .int .i64 y.2], true, true⟩]) H.length (ints [x.1, x.2]) := ⟨true, by simp [ints]⟩
  have hd : Holds (H ++ [⟨[.int .i64 x.1, .int .i64 x.2], true, true⟩, ⟨[.int .i64 y.1, .int .i64 y.2], true, true⟩]) (H.length + 1) (ints [y.1, y.2]) := ⟨true, by simp [ints]⟩
  refine ACalls.up (args' := [lv 1 H.length 0 2, lv 1 (H.length + 1) 0 2]) ⟨Up.ex (by omega) (.inr (by simp [go_sem])), Up.ex (by omega) (.inr (by simp [go_sem])), trivial⟩ ?_
  refine slicesCompare_ok (xs := [x.1, x.2]) (ys := [y.1, y.2]) ⟨H.length, 0, rfl, ha.at, by simp⟩ ⟨H.length + 1, 0, rfl, hd.at, by simp⟩ _ ?_
  simp (maxSteps := 1000000) [go_sem]
  exact fin

theorem pairsB_take {bs : List Bk} {s : Nat} {b : Bk} (h : bs[s]? = some b) : pairsB (bs.take (s + 1)) = pairsB (bs.take s) ++ prs b := by
  have hlt := (List.getElem?_eq_some_iff.1 h).1
  rw [List.take_succ_eq_append_getElem hlt, (List.getElem?_eq_some_iff.1 h).2]
  simp [pairsB]

theorem pairs_ok {H : Heap} {u : Value} {bs : List Bk} (hu : BlocksAt H u bs) (hl : bs.length ≤ 35) (Post : Value → Heap → Prop)
    (h : ∀ (H' : Heap) (id : Nat) (l : List (Int × Int)), H <+: H' → OL 2 H' id (l.flatMap cellsP) (bs.length * 3) → l.Perm (pairsB bs) → l.Pairwise (fun p q => ltP q p = false) → Post (lv 2 id 0 (bs.length * 3)) H') :
    ACalls Try.prog 172 [u] H Post := by
  obtain ⟨i, o, rfl, h1, h2⟩ := hu
  refine ACalls.res ?_
  refine acalls_vc (rs := [.tmp 2]) Try.func172 rfl rfl Try.ntmps172 rfl rfl ?_
  simp (maxSteps := 1000000) [go_sem]
  refine AWp.addGhost ?_
  refine AWp.loopVc (St := Nat × Nat) (fun s => [(3, lv 2 s.2 0 (s.1 * 3)), (6, lv 3 i o bs.length), (7, .int .i64 bs.length), (8, .int .i64 s.1)])
    (fun s H' => s.1 ≤ bs.length ∧ Bl 2 H H' s.2 ((pairsB (bs.take s.1)).flatMap cellsP) (s.1 * 3)) (fun s => bs.length - s.1) (0, H.length) ?_ ?_ ?_
  · simp [upF, Fr.get, Up.refl, Up.nil]
  · exact ⟨by simp, by simpa [pairsB] using Bl.ghost 2 H⟩
  · rintro K ⟨s, id⟩ H' ⟨hs, hbl⟩ hK
    simp only at hs hbl
    by_cases hlt : s < bs.length
    · have hbs : bs[s]? = some bs[s] := List.getElem?_eq_getElem hlt
      have c1 := (h1.pre hbl.1).bk hbs
      have hw_s : IntKind.i64.wrap ((s : Int) + 1) = (s : Int) + 1 := i64w (by omega) (by omega)
      have hpt := pairsB_take hbs
      generalize bs[s] = b at *
      simp only [Bk.cells] at c1
      have hbl1 := hbl.pre (List.prefix_append H' [⟨[.int .i64 b.a, .int .i64 b.b, .int .i64 b.c], true, true⟩, ⟨[.int .i64 b.a, .int .i64 b.b, .int .i64 b.a, .int .i64 b.c, .int .i64 b.b, .int .i64 b.c], true, true⟩])
      obtain ⟨H3, hap, hol, hsame, hlen⟩ := hbl1.2.1.append (m := 3) (by omega) (by omega) (news := [.int .i64 b.a, .int .i64 b.b, .int .i64 b.a, .int .i64 b.c, .int .i64 b.b, .int .i64 b.c]) rfl
      have hge := hbl.2.2
      have hsrc : cellsAt (H' ++ [⟨[.int .i64 b.a, .int .i64 b.b, .int .i64 b.c], true, true⟩, ⟨[.int .i64 b.a, .int .i64 b.b, .int .i64 b.a, .int .i64 b.c, .int .i64 b.b, .int .i64 b.c], true, true⟩]) (H'.length + 1) 0 6 = some [.int .i64 b.a, .int .i64 b.b, .int .i64 b.a, .int .i64 b.c, .int .i64 b.b, .int .i64 b.c] := by simp [go_sem]
      simp only [List.length_append, List.length_cons, List.length_nil] at hap hol
      have e3 : s * 3 + 3 = (s + 1) * 3 := by omega
      rw [e3] at hap hol
      have hbl3 : Bl 2 H H3 (H'.length + 2) ((pairsB (bs.take (s + 1))).flatMap cellsP) ((s + 1) * 3) := by
        refine ⟨((Same.of_prefix hbl1.1).trans hsame).prefix (by intro j hj e; omega), ?_, by have := hbl.1.length_le; omega⟩
        rw [hpt, List.flatMap_append]
        simpa [prs, cellsP] using hol
      simp (maxSteps := 1000000) [go_sem, hlt, c1, hsrc, hap, hw_s]
      exact andK_intro (by omega) (hK (s + 1, H'.length + 2) _ _ (by simp only; omega) (by simp [upF, Fr.get, Up.refl]) ⟨by simp only; omega, hbl3⟩)
    · have : s = bs.length := by omega
      subst this
      rw [List.take_length] at hbl
      simp (maxSteps := 1000000) [go_sem]
      refine sortFuncP_ok (fs := []) (cs := []) (Q := fun _ => True) (l := pairsB bs) swoP hbl.2.1 (pairsB_length bs) (by omega) (fun _ _ => trivial) pairsCmp _ ?_
      intro H2 l2 hs2 hol2 hperm hsorted
      simp (maxSteps := 1000000) [go_sem]
      refine ⟨_, Up.refl _ _, h H2 id l2 ?_ hol2 hperm hsorted⟩
      exact ((Same.of_prefix hbl.1).trans hs2).prefix (by have := hbl.2.2; intro j hj e; omega)

theorem equalP_ok {H : Heap} {i j n m : Nat} {l k : List (Int × Int)} (h1 : At H i 0 (l.flatMap cellsP)) (hn : l.length = n) (h2 : At H j 0 (k.flatMap cellsP)) (hm : k.length = m) (hl : n ≤ 1048576) (hl' : m ≤ 1048576) (Post : Value → Heap → Prop)
    (h : Post (.bool (decide (l = k))) H) : ACalls Try.prog 171 [lv 2 i 0 n, lv 2 j 0 m] H Post := by
  refine acalls_vc (rs := [.tmp 4]) Try.func171 rfl rfl Try.ntmps171 rfl rfl ?_
  by_cases hnm : n = m
  · subst hnm
    simp (maxSteps := 1000000) [go_sem]
    refine AWp.loopVc (fun s : Nat => [(0, lv 2 i 0 n), (1, lv 2 j 0 n), (12, .int .i64 n), (13, .int .i64 s)]) (fun s H' => s ≤ n ∧ H' = H ∧ l.take s = k.take s) (fun s => n - s) 0 ?_ ?_ ?_
    · simp [upF, Fr.get, Up.refl]
    · exact ⟨by omega, rfl, by simp⟩
    · rintro K s H' ⟨hs, rfl, hf⟩ hK
      by_cases hlt : s < n
      · have cut : ∀ {q : Nat} {x : List (Int × Int)}, At H' q 0 (x.flatMap cellsP) → (hx : s < x.length) → cellsAt H' q (s * 2) 2 = some (cellsP x[s]) := by
          intro q x hx hsx
          have hle : s * 2 + 2 ≤ (x.flatMap cellsP).length := by rw [flat_len cellsP_len]; omega
          have := hx.sub (k := s * 2) (n := 2) (by omega) hle
          rw [Nat.zero_add, flat_cut cellsP_len (List.getElem?_eq_getElem hsx)] at this
          exact this
        have c1 := cut h1 (by omega)
        have c2 := cut h2 (by omega)
        simp only [cellsP] at c1 c2
        have t1 := List.take_succ_eq_append_getElem (show s < l.length by omega)
        have t2 := List.take_succ_eq_append_getElem (show s < k.length by omega)
        have hne : l[s] ≠ k[s] → decide (l = k) = false := by
          intro hne
          rw [decide_eq_false_iff_not]
          intro e; subst e; exact hne rfl
        generalize l[s] = x at *
        generalize k[s] = y at *
        have hw_s : IntKind.i64.wrap ((s : Int) + 1) = (s : Int) + 1 := i64w (by omega) (by omega)
        simp (maxSteps := 1000000) [go_sem, hlt]
        refine AWp.draw mixed [(0, false), (1, false), (2, false), (3, false), (4, false), (5, false), (6, false), (7, false), (8, false)] (by kernel_rfl) ?_
        simp (maxSteps := 1000000) [go_sem, hlt, c1, c2, hw_s]
        refine condK_intro (fun hh => ?_) (fun hh => ?_)
        · have : x ≠ y := by rintro rfl; simp at hh
          rw [hne this] at h
          exact h
        · have hxy : x = y := Prod.ext (by simp at hh; exact hh.1) (by simp at hh; exact hh.2)
          refine hK (s + 1) _ _ (by omega) (by simp [upF, Fr.get, Up.refl]) ⟨by omega, rfl, ?_⟩
          rw [t1, t2, hf, hxy]
      · have : s = n := by omega
        subst this
        have e : l = k := by
          rw [List.take_of_length_le (by omega), List.take_of_length_le (by omega)] at hf
          exact hf
        have e' : decide (l = k) = true := decide_eq_true e
        rw [e'] at h
        simp (maxSteps := 1000000) [go_sem]
        exact h
  · have hnm' : ((n : Int) != (m : Int)) = true := by simp; omega
    have e : decide (l = k) = false := by
      rw [decide_eq_false_iff_not]
      intro e; subst e; omega
    rw [e] at h
    simp (maxSteps := 1000000) [go_sem, hnm, hnm']
    exact h

theorem haveSamePairs_ok {H : Heap} {u w : Value} {p q : Int} {x y : List Bk} (hu : BlocksAt H u x) (hw : BlocksAt H w y) (hx : IsSys p x) (hy : IsSys q y) (Post : Value → Heap → Prop) (h : ∀ H', H <+: H' → Post (.bool (samePairs x y)) H') :
    ACalls Try.prog 137 [u, w] H Post := by
  have hx35 := hx.2.1
  have hy35 := hy.2.1
  refine acalls_vc (rs := [.tmp 4]) Try.func137 rfl rfl Try.ntmps137 rfl rfl ?_
  simp (maxSteps := 1000000) [go_sem]
  refine pairs_ok hu hx35 _ ?_
  intro H1 i1 l1 hp1 ho1 hm1 hs1
  simp (maxSteps := 1000000) [go_sem]
  refine pairs_ok (hw.pre hp1) hy35 _ ?_
  intro H2 i2 l2 hp2 ho2 hm2 hs2
  have ho1 := ho1.keep (S := fun _ => False) (Same.of_prefix hp2) (fun h => h)
  simp (maxSteps := 1000000) [go_sem]
  have len : ∀ {l : List (Int × Int)} {z : List Bk}, l.Perm (pairsB z) → l.length = z.length * 3 := fun hp => by rw [hp.length_eq, pairsB_length]
  refine equalP_ok ho1.at (len hm1) ho2.at (len hm2) (by omega) (by omega) _ ?_
  rw [sorted_pairs hx hy hm1 hm2 hs1 hs2]
  simp (maxSteps := 1000000) [go_sem]
  exact h H2 (hp1.trans hp2)

end Go.Proofs.Ytdfeoccjllljiaa
end

section
/- CyclesOf: the specification's side. -/
set_option linter.all false
set_option maxRecDepth 20000
set_option maxHeartbeats 8000000
namespace Go.Proofs.Ytdfeoccjllljiaa
open Go.Ab

/-- Which points were met. -/
def metC (v : Nat) (met : List Nat) : List Value := (List.range v).map fun x => Value.bool (decide (x ∈ met))
theorem metC_length (v : Nat) (met : List Nat) : (metC v met).length = v := by simp [metC]
theorem metC_get {v : Nat} {met : List Nat} {x : Nat} (h : x < v) : (metC v met)[x]? = some (.bool (decide (x ∈ met))) := by simp [metC, h]
theorem metC_set {v : Nat} {met : List Nat} {x : Nat} (h : x < v) : (metC v met).set x (.bool true) = metC v (met ++ [x]) := by
  apply List.ext_getElem?
  intro k
  rw [List.getElem?_set]
  by_cases hk : k < v
  · rw [metC_get (met := met ++ [x]) hk]
    by_cases e : x = k
    · subst e
      rw [if_pos rfl, if_pos (by rw [metC_length]; exact hk), decide_eq_true (show x ∈ met ++ [x] by simp)]
    · rw [if_neg e, metC_get hk]
      have : k ≠ x := fun h => e h.symm
      simp [this]
  · rw [List.getElem?_eq_none (l := metC v (met ++ [x])) (by rw [metC_length]; omega)]
    split
    · rw [if_neg (by rw [metC_length]; omega)]
    · exact List.getElem?_eq_none (by rw [metC_length]; omega)
theorem madeB (v : Nat) : (madeCells #[Value.bool false] v).toList = metC v [] := by
  apply List.ext_getElem?
  intro k
  by_cases hk : k < v
  · rw [metC_get hk]; simp [madeCells, hk, Nat.mod_one]
  · rw [List.getElem?_eq_none (by simp [madeCells]; omega), List.getElem?_eq_none (by rw [metC_length]; omega)]

theorem metC_put {v : Nat} {met : List Nat} {x : Nat} (h : x < v) : (metC v met).take x ++ Value.bool true :: (metC v met).drop (x + 1) = metC v (met ++ [x]) := by
  rw [← metC_set h, List.set_eq_take_append_cons_drop, if_pos (by rw [metC_length]; exact h)]

end Go.Proofs.Ytdfeoccjllljiaa
end

section
/- Trades: what a trade is, both sides. -/
set_option linter.all false
set_option maxRecDepth 20000
set_option maxHeartbeats 8000000
namespace Go.Proofs.Ytdfeoccjllljiaa
open Go.Ab Go.Sort

def tradeV (p : Int) (u w : Value) : Value := .agg #[.int .i64 p, u, w]
theorem _root_.Go.Ab.Holds.tr {H : Heap} {i : Nat} {p : Int} {u w : Value} (h : Holds H i [.int .i64 p, u, w]) : cellsAt H i 0 3 = some [.int .i64 p, u, w] ∧ cellsAt H i 0 1 = some [.int .i64 p] ∧ cellsAt H i 1 1 = some [u] ∧ cellsAt H i 2 1 = some [w] :=
  ⟨by simpa using h.cells (n := 3) (o := 0) (by simp), h.cell rfl, h.cell rfl, h.cell rfl⟩

theorem areBlocksB {H : Heap} {u : Value} {p : Int} {bs : List Bk} (hu : BlocksAt H u bs) (Post : Value → Heap → Prop) (h : ∀ H', H <+: H' → Post (.bool (sysB p bs)) H') : ACalls Try.prog 135 [.int .i64 p, u] H Post :=
  areBlocks_ok hu Post fun H' b hp hb => by rw [sysB_eq hb]; exact h H' hp

theorem implIsTrade {H : Heap} {u w : Value} {p : Int} {o i : List Bk} (hu : BlocksAt H u o) (hw : BlocksAt H w i) (Post : Value → Heap → Prop) (h : ∀ H', H <+: H' → Post (.bool (tradeB p o i)) H') :
    ACalls Try.prog 74 [tradeV p u w] H Post := by
  have ou := hu.one
  have ow := hw.one
  refine acalls_vc (rs := [.tmp 2]) Try.func74 rfl rfl Try.ntmps74 rfl rfl ?_
  simp (maxSteps := 1000000) [go_sem, tradeV, ou, ow]
  have hp0 : H <+: H ++ [⟨[.int .i64 p, u, w], true, true⟩] := List.prefix_append _ _
  have hx0 := Holds.last H [.int .i64 p, u, w]
  generalize H ++ [(⟨[.int .i64 p, u, w], true, true⟩ : Blk)] = H0 at hp0 hx0 ⊢
  refine areBlocksB (hu.pre hp0) _ ?_
  intro H1 hp1
  obtain ⟨d0, d1, d2, d3⟩ := (hx0.pre hp1).tr
  cases hs1 : sysB p o with
  | false =>
    have fin := h H1 (hp0.trans hp1)
    simp only [tradeB, hs1, Bool.false_and] at fin
    simp (maxSteps := 1000000) [go_sem, undef]
    exact fin
  | true =>
    have hS1 := sysB_of hs1
    have ho35 := hS1.2.1
    simp (maxSteps := 1000000) [go_sem, d1, d3]
    refine areBlocksB (hw.pre (hp0.trans hp1)) _ ?_
    intro H2 hp2
    obtain ⟨d0, d1, d2, d3⟩ := (hx0.pre (hp1.trans hp2)).tr
    have hp02 := hp0.trans (hp1.trans hp2)
    cases hs2 : sysB p i with
    | false =>
      have fin := h H2 hp02
      simp only [tradeB, hs1, hs2, Bool.false_and, Bool.and_false] at fin
      simp (maxSteps := 1000000) [go_sem, undef]
      exact fin
    | true =>
      have hS2 := sysB_of hs2
      simp (maxSteps := 1000000) [go_sem, d2, d3]
      refine implCommon_ok (hu.pre hp02) (hw.pre hp02) (by omega) _ ?_
      intro H3 v3 hp3 hv3
      obtain ⟨d0, d1, d2, d3⟩ := (hx0.pre ((hp1.trans hp2).trans hp3)).tr
      have hp03 := hp02.trans hp3
      obtain ⟨id3, ⟨hv, _⟩, _⟩ := hv3
      rw [hv]
      have hb : o.filter (memB i) = bothB o i := rfl
      rw [hb]
      by_cases h0 : bothB o i = []
      · simp (maxSteps := 1000000) [go_sem, h0, d2, d3]
        refine haveSamePairs_ok (hu.pre hp03) (hw.pre hp03) hS1 hS2 _ ?_
        intro H4 hp4
        have fin := h H4 (hp03.trans hp4)
        simp only [tradeB, hs1, hs2, h0, decide_true, Bool.true_and] at fin
        simp (maxSteps := 1000000) [go_sem]
        exact fin
      · have h1 : ¬ (bothB o i).length = 0 := fun e => h0 (List.eq_nil_of_length_eq_zero e)
        have h1' : (((bothB o i).length : Int) == 0) = false := by simp [h0]
        have fin := h H3 hp03
        simp only [tradeB, hs1, hs2, decide_eq_false h0, Bool.false_and, Bool.and_false] at fin
        simp (maxSteps := 1000000) [go_sem, undef, h0, h1, h1']
        exact fin

theorem l04Pair_ok {H : Heap} {x y : Nat} (hxy : x < y) (hy : y < 15) (Post : Value → Heap → Prop) (h : Post (.int .i64 ((x * 16 + y : Nat) : Int)) H) : ACalls Try.prog 169 [.int .i64 x, .int .i64 y] H Post := by
  refine acalls_vc (rs := [.tmp 4]) Try.func169 rfl rfl Try.ntmps169 rfl rfl ?_
  have w1 : IntKind.i64.wrap ((x : Int) * 16) = (x : Int) * 16 := i64w (by omega) (by omega)
  have w2 : IntKind.i64.wrap ((x : Int) * 16 + y) = (x : Int) * 16 + y := i64w (by omega) (by omega)
  have m1 : min (x : Int) y = x := by omega
  have m2 : max (x : Int) y = y := by omega
  have m3 : min x y = x := by omega
  have m4 : max x y = y := by omega
  have a1 : (x : Int) < y := by omega
  have a2 : ¬ ((y : Int) < x) := by omega
  simp (maxSteps := 1000000) [go_sem, w1, w2, m1, m2, m3, m4, a1, a2, hxy]
  simpa using h

theorem codesB_take {bs : List Bk} {s x y z : Nat} (h : bs[s]? = some ⟨x, y, z⟩) : codesB (bs.take (s + 1)) = codesB (bs.take s) ++ [x * 16 + y] ++ [x * 16 + z] ++ [y * 16 + z] := by
  unfold codesB
  rw [pairsB_take h, List.map_append]
  simp only [prs, List.map_cons, List.map_nil, codeP, List.append_assoc, List.singleton_append]
  congr 1

theorem l04Pairs_ok {H : Heap} {u : Value} {bs : List Bk} (hu : BlocksAt H u bs) (hg : ∀ x ∈ bs, good 15 x = true) (hl : bs.length ≤ 1048576) (Post : Value → Heap → Prop)
    (h : ∀ (H' : Heap) (id : Nat), H <+: H' → H'[id]? = some ⟨metC 256 (codesB bs), true, true⟩ → Post (.slice (some ⟨id, 0, none⟩) 256 256) H') : ACalls Try.prog 168 [u] H Post := by
  obtain ⟨i, o, rfl, h1, h2⟩ := hu
  refine acalls_vc (rs := [.tmp 2]) Try.func168 rfl rfl Try.ntmps168 rfl rfl ?_
  simp (maxSteps := 1000000) [go_sem, madeB, metC_length]
  have hp0 : H <+: H ++ [⟨metC 256 [], true, true⟩] := List.prefix_append _ _
  have hb0 : (H ++ [(⟨metC 256 [], true, true⟩ : Blk)])[H.length]? = some ⟨metC 256 [], true, true⟩ := by simp
  generalize H ++ [(⟨metC 256 [], true, true⟩ : Blk)] = H0 at hp0 hb0 ⊢
  refine AWp.loopVc (fun s : Nat => [(0, lv 3 i o bs.length), (3, .slice (some ⟨H.length, 0, none⟩) 256 256), (4, .int .i64 s)])
    (fun s H' => s ≤ bs.length ∧ Same (fun k => k = H.length) H0 H' ∧ H'[H.length]? = some ⟨metC 256 (codesB (bs.take s)), true, true⟩) (fun s => bs.length - s) 0 ?_ ?_ ?_
  · simp [upF, Fr.get, Up.refl]
  · exact ⟨by omega, Same.refl _ _, by simpa [codesB, pairsB] using hb0⟩
  · rintro K s H1 ⟨hs, hS1, hm⟩ hK
    have pre : ∀ {H' : Heap}, Same (fun k => k = H.length) H0 H' → H <+: H' := fun hS => ((Same.of_prefix hp0).trans hS).prefix (by intro j hj e; omega)
    have st : ∀ {H' : Heap} {cs : List Nat} (c : Nat), H'[H.length]? = some ⟨metC 256 cs, true, true⟩ → c < 256 →
        storeAt H' H.length c [.bool true] = some (H'.set H.length ⟨metC 256 (cs ++ [c]), true, true⟩) ∧ (H'.set H.length ⟨metC 256 (cs ++ [c]), true, true⟩)[H.length]? = some ⟨metC 256 (cs ++ [c]), true, true⟩ ∧ Same (fun k => k = H.length) H' (H'.set H.length ⟨metC 256 (cs ++ [c]), true, true⟩) := by
      intro H' cs c hb hc
      refine ⟨?_, List.getElem?_set_self (List.getElem?_eq_some_iff.1 hb).1, same_set⟩
      rw [storeAt_of hb rfl rfl (by simp [metC_length]; omega) (by simp [Value.oneCell'])]
      have := metC_put (v := 256) (met := cs) hc
      simp only [over, List.length_singleton, List.append_assoc, List.singleton_append]
      rw [this]
    by_cases hlt : s < bs.length
    · have hbs : bs[s]? = some bs[s] := List.getElem?_eq_getElem hlt
      obtain ⟨x, y, z, hb, hxy, hyz, hz⟩ := good_nat (hg _ (List.mem_of_getElem? hbs)) (Int.le_refl _)
      rw [hb] at hbs
      have ct := codesB_take hbs
      have ld : ∀ {H' : Heap}, H <+: H' → cellsAt H' i (o + s * 3) 1 = some [.int .i64 (x : Int)] ∧ cellsAt H' i (o + s * 3 + 1) 1 = some [.int .i64 (y : Int)] ∧ cellsAt H' i (o + s * 3 + 2) 1 = some [.int .i64 (z : Int)] := by
        intro H' hp
        exact ⟨by have := (h1.pre hp).num hbs (j := 0) rfl; simpa using this, (h1.pre hp).num hbs (j := 1) rfl, (h1.pre hp).num hbs (j := 2) rfl⟩
      have hw_s : IntKind.i64.wrap ((s : Int) + 1) = (s : Int) + 1 := i64w (by omega) (by omega)
      obtain ⟨c1, hc1⟩ : ∃ c, x * 16 + y = c := ⟨_, rfl⟩
      obtain ⟨c2, hc2⟩ : ∃ c, x * 16 + z = c := ⟨_, rfl⟩
      obtain ⟨c3, hc3⟩ : ∃ c, y * 16 + z = c := ⟨_, rfl⟩
      rw [hc1, hc2, hc3] at ct
      obtain ⟨a1, a2, a3⟩ := ld (pre hS1)
      obtain ⟨s1, m1, k1⟩ := st c1 hm (by omega)
      have hS2 := hS1.trans k1
      obtain ⟨b1, b2, b3⟩ := ld (pre hS2)
      obtain ⟨s2, m2, k2⟩ := st c2 m1 (by omega)
      have hS3 := hS2.trans k2
      obtain ⟨e1, e2, e3⟩ := ld (pre hS3)
      obtain ⟨s3, m3, k3⟩ := st c3 m2 (by omega)
      have hS4 := hS3.trans k3
      rw [← ct] at m3 s3 hS4
      generalize H1.set H.length ⟨metC 256 (codesB (bs.take s) ++ [c1]), true, true⟩ = HA at *
      generalize HA.set H.length ⟨metC 256 (codesB (bs.take s) ++ [c1] ++ [c2]), true, true⟩ = HB at *
      generalize HB.set H.length ⟨metC 256 (codesB (bs.take (s + 1))), true, true⟩ = HC at *
      have n1 : c1 < 256 := by omega
      have n2 : c2 < 256 := by omega
      have n3 : c3 < 256 := by omega
      have n1' : (c1 : Int) < 256 := by omega
      have n2' : (c2 : Int) < 256 := by omega
      have n3' : (c3 : Int) < 256 := by omega
      simp (maxSteps := 1000000) [go_sem, hlt]
      refine AWp.draw mixed [(0, false), (1, false), (2, false), (3, false), (4, false), (5, false), (6, false), (7, false), (8, false), (9, false), (10, false), (11, false), (12, false), (13, false)] (by kernel_rfl) ?_
      simp (maxSteps := 1000000) [go_sem, hlt, a1, a2]
      refine l04Pair_ok hxy (by omega) _ ?_
      rw [hc1]
      simp (maxSteps := 1000000) [go_sem, n1, n1', s1]
      refine AWp.draw mixed [(0, false), (1, false), (2, false), (3, false), (4, false), (5, false), (6, false), (7, false), (8, false), (9, false), (10, false), (11, false), (12, false), (13, false)] (by kernel_rfl) ?_
      simp (maxSteps := 1000000) [go_sem, hlt, b1, b3]
      refine l04Pair_ok (by omega) hz _ ?_
      rw [hc2]
      simp (maxSteps := 1000000) [go_sem, n2, n2', s2]
      refine AWp.draw mixed [(0, false), (1, false), (2, false), (3, false), (4, false), (5, false), (6, false), (7, false), (8, false), (9, false), (10, false), (11, false), (12, false), (13, false)] (by kernel_rfl) ?_
      simp (maxSteps := 1000000) [go_sem, hlt, e2, e3]
      refine l04Pair_ok hyz hz _ ?_
      rw [hc3]
      simp (maxSteps := 1000000) [go_sem, n3, n3', s3, hw_s]
      exact hK (s + 1) _ _ (by omega) (by simp [upF, Fr.get, Up.refl]) ⟨by omega, hS4, m3⟩
    · have : s = bs.length := by omega
      subst this
      rw [List.take_length] at hm
      simp (maxSteps := 1000000) [go_sem]
      exact h H1 H.length (pre hS1) hm

end Go.Proofs.Ytdfeoccjllljiaa
end

section
/- Trades: the specification's side, whole. -/
set_option linter.all false
set_option maxRecDepth 20000
set_option maxHeartbeats 8000000
namespace Go.Proofs.Ytdfeoccjllljiaa
open Go.Ab Go.Sort

theorem l04Same_ok {H : Heap} {u w : Value} {x y : List Bk} (hu : BlocksAt H u x) (hw : BlocksAt H w y) (hx : ∀ b ∈ x, good 15 b = true) (hy : ∀ b ∈ y, good 15 b = true) (hl : x.length ≤ 1048576) (hl' : y.length ≤ 1048576) (Post : Value → Heap → Prop)
    (h : ∀ H', H <+: H' → Post (.bool (samePairs x y)) H') : ACalls Try.prog 131 [u, w] H Post := by
  refine acalls_vc (rs := [.tmp 4]) Try.func131 rfl rfl Try.ntmps131 rfl rfl ?_
  simp (maxSteps := 1000000) [go_sem]
  refine l04Pairs_ok hu hx hl _ ?_
  intro H1 i1 hp1 hb1
  simp (maxSteps := 1000000) [go_sem]
  refine l04Pairs_ok (hw.pre hp1) hy hl' _ ?_
  intro H2 i2 hp2 hb2
  have hb1 : H2[i1]? = some ⟨metC 256 (codesB x), true, true⟩ := Same.get (S := fun _ => False) (Same.of_prefix hp2) hb1 (fun h => h)
  simp (maxSteps := 1000000) [go_sem]
  refine AWp.loopVc (fun s : Nat => [(5, .slice (some ⟨i1, 0, none⟩) 256 256), (6, .slice (some ⟨i2, 0, none⟩) 256 256), (7, .int .i64 s)])
    (fun s H' => s ≤ 256 ∧ H' = H2 ∧ ∀ c, c < s → (c ∈ codesB x ↔ c ∈ codesB y)) (fun s => 256 - s) 0 ?_ ?_ ?_
  · simp [upF, Fr.get, Up.refl]
  · exact ⟨by omega, rfl, fun c hc => by omega⟩
  · rintro K s H' ⟨hs, rfl, hf⟩ hK
    by_cases hlt : s < 256
    · have hlt' : (s : Int) < 256 := by omega
      have c1 : cellsAt H' i1 s 1 = some [.bool (decide (s ∈ codesB x))] := Holds.cell (H := H') ⟨true, hb1⟩ (metC_get hlt)
      have c2 : cellsAt H' i2 s 1 = some [.bool (decide (s ∈ codesB y))] := Holds.cell (H := H') ⟨true, hb2⟩ (metC_get hlt)
      obtain ⟨p, hp⟩ : ∃ p, p = decide (s ∈ codesB x) := ⟨_, rfl⟩
      obtain ⟨q, hq⟩ : ∃ q, q = decide (s ∈ codesB y) := ⟨_, rfl⟩
      rw [← hp] at c1
      rw [← hq] at c2
      have hw_s : IntKind.i64.wrap ((s : Int) + 1) = (s : Int) + 1 := i64w (by omega) (by omega)
      simp (maxSteps := 1000000) [go_sem, hlt, hlt']
      refine AWp.draw mixed [(0, false), (1, false), (2, false), (3, false), (4, false), (5, false), (6, false), (7, false), (8, false)] (by kernel_rfl) ?_
      by_cases hpq : p = q
      · subst hpq
        simp (maxSteps := 1000000) [go_sem, hlt, hlt', c1, c2, hw_s]
        refine hK (s + 1) _ _ (by omega) (by simp [upF, Fr.get, Up.refl]) ⟨by omega, rfl, ?_⟩
        intro c hc
        rcases Nat.lt_or_ge c s with h1 | h1
        · exact hf c h1
        · have : c = s := by omega
          subst this
          rw [hp] at hq
          exact decide_eq_decide.1 hq
      · have fin := h H' (hp1.trans hp2)
        have e : false = samePairs x y := by
          refine same_codes hx hy ?_
          constructor
          · intro h; cases h
          · intro hall
            exact absurd (by rw [hp, hq]; exact decide_eq_decide.2 (hall s hlt)) hpq
        rw [← e] at fin
        have hpq' : (p == q) = false := by rw [beq_eq_false_iff_ne]; exact hpq
        simp (maxSteps := 1000000) [go_sem, hlt, hlt', c1, c2, hpq']
        exact fin
    · have : s = 256 := by omega
      subst this
      have fin := h H' (hp1.trans hp2)
      have e : true = samePairs x y := same_codes hx hy ⟨fun _ => hf, fun _ => rfl⟩
      rw [← e] at fin
      simp (maxSteps := 1000000) [go_sem]
      exact fin

theorem l04Member_ok {H : Heap} {u : Value} {bs : List Bk} {b : Bk} (hu : BlocksAt H u bs) (Post : Value → Heap → Prop) (h : ∀ H', H <+: H' → Post (.bool (memB bs b)) H') :
    ACalls Try.prog 132 [u, b.val] H Post := by
  obtain ⟨i, o, rfl, h1, h2⟩ := hu
  refine acalls_vc (rs := [.tmp 4]) Try.func132 rfl rfl Try.ntmps132 rfl rfl ?_
  simp (maxSteps := 1000000) [go_sem, Bk.val]
  have hp0 : H <+: H ++ [⟨[.int .i64 b.a, .int .i64 b.b, .int .i64 b.c], true, true⟩] := List.prefix_append _ _
  have hx1 := Holds.last H [.int .i64 b.a, .int .i64 b.b, .int .i64 b.c]
  generalize H ++ [(⟨[.int .i64 b.a, .int .i64 b.b, .int .i64 b.c], true, true⟩ : Blk)] = H0 at hp0 hx1 ⊢
  obtain ⟨e0, e1, e2, e3⟩ := hx1.bk
  refine AWp.loopVc (fun s : Nat => [(0, lv 3 i o bs.length), (3, .pointer (some ⟨H.length, 0, none⟩)), (5, .int .i64 s)])
    (fun s H' => s ≤ bs.length ∧ H' = H0 ∧ b ∉ bs.take s) (fun s => bs.length - s) 0 ?_ ?_ ?_
  · simp [upF, Fr.get, Up.refl]
  · exact ⟨by omega, rfl, by simp⟩
  · rintro K s H' ⟨hs, rfl, hf⟩ hK
    by_cases hlt : s < bs.length
    · have hbs : bs[s]? = some bs[s] := List.getElem?_eq_getElem hlt
      have c1 := (h1.pre hp0).bk hbs
      simp only [Bk.cells] at c1
      have hw_s : IntKind.i64.wrap ((s : Int) + 1) = (s : Int) + 1 := i64w (by omega) (by omega)
      simp (maxSteps := 1000000) [go_sem, hlt]
      refine AWp.draw mixed [(0, false), (1, false), (2, false), (3, false), (4, false), (5, false)] (by kernel_rfl) ?_
      by_cases he : bs[s] = b
      · have he' := (Bk.eq3 _ _).1 he
        simp (maxSteps := 1000000) [go_sem, hlt, c1, e0, he'.1, he'.2.1, he'.2.2]
        have : memB bs b = true := by simp [memB, ← he]
        simpa [this] using h H' hp0
      · have he' : ¬ (bs[s].a = b.a ∧ bs[s].b = b.b ∧ bs[s].c = b.c) := fun hh => he ((Bk.eq3 _ _).2 hh)
        simp (maxSteps := 1000000) [go_sem, hlt, c1, e0, hw_s]
        have he2 : decide (bs[s].a = b.a ∧ bs[s].b = b.b ∧ bs[s].c = b.c) = false := by simpa using he'
        try rw [he2]
        try simp only [condK_false]
        refine condK_intro (fun hh => absurd (by simpa using hh) he') (fun _ => ?_)
        refine hK (s + 1) _ _ (by omega) (by simp [upF, Fr.get, Up.refl]) ⟨by omega, rfl, ?_⟩
        rw [List.take_succ_eq_append_getElem hlt, List.mem_append]
        rintro (hh | hh)
        · exact hf hh
        · simp at hh; exact he hh.symm
    · have : s = bs.length := by omega
      subst this
      rw [List.take_length] at hf
      simp (maxSteps := 1000000) [go_sem]
      have : memB bs b = false := by simp [memB, hf]
      simpa [this] using h H' hp0

theorem bothB_nil {o i : List Bk} : bothB o i = [] ↔ ∀ b ∈ o, memB i b = false := by
  unfold bothB
  rw [List.filter_eq_nil_iff]
  constructor <;> intro h b hb
  · simpa using h b hb
  · simpa using h b hb

theorem l04Is_ok {H : Heap} {u w : Value} {p : Int} {o i : List Bk} (hu : BlocksAt H u o) (hw : BlocksAt H w i) (hl : o.length ≤ 1048576) (hl' : i.length ≤ 1048576) (Post : Value → Heap → Prop) (h : ∀ H', H <+: H' → Post (.bool (tradeB p o i)) H') :
    ACalls Try.prog 72 [tradeV p u w] H Post := by
  have hu0 := hu
  have hw0 := hw
  obtain ⟨j1, q1, eu, _, _⟩ := hu
  obtain ⟨j2, q2, ew, _, _⟩ := hw
  subst eu
  subst ew
  have hu := hu0
  have hw := hw0
  refine acalls_vc (rs := [.tmp 2]) Try.func72 rfl rfl Try.ntmps72 rfl rfl ?_
  simp (maxSteps := 1000000) [go_sem, tradeV]
  have hp0 : H <+: H ++ [⟨[.int .i64 p, lv 3 j1 q1 o.length, lv 3 j2 q2 i.length], true, true⟩, ⟨[.int .i64 p, lv 3 j1 q1 o.length], true, true⟩, ⟨[.int .i64 p, lv 3 j2 q2 i.length], true, true⟩] := List.prefix_append _ _
  have hx0 : Holds (H ++ [(⟨[.int .i64 p, lv 3 j1 q1 o.length, lv 3 j2 q2 i.length], true, true⟩ : Blk), ⟨[.int .i64 p, lv 3 j1 q1 o.length], true, true⟩, ⟨[.int .i64 p, lv 3 j2 q2 i.length], true, true⟩]) H.length [.int .i64 p, lv 3 j1 q1 o.length, lv 3 j2 q2 i.length] := ⟨true, by simp⟩
  have hx1 : Holds (H ++ [(⟨[.int .i64 p, lv 3 j1 q1 o.length, lv 3 j2 q2 i.length], true, true⟩ : Blk), ⟨[.int .i64 p, lv 3 j1 q1 o.length], true, true⟩, ⟨[.int .i64 p, lv 3 j2 q2 i.length], true, true⟩]) (H.length + 1) [.int .i64 p, lv 3 j1 q1 o.length] := ⟨true, by simp⟩
  have hx2 : Holds (H ++ [(⟨[.int .i64 p, lv 3 j1 q1 o.length, lv 3 j2 q2 i.length], true, true⟩ : Blk), ⟨[.int .i64 p, lv 3 j1 q1 o.length], true, true⟩, ⟨[.int .i64 p, lv 3 j2 q2 i.length], true, true⟩]) (H.length + 2) [.int .i64 p, lv 3 j2 q2 i.length] := ⟨true, by simp⟩
  generalize H ++ [(⟨[.int .i64 p, lv 3 j1 q1 o.length, lv 3 j2 q2 i.length], true, true⟩ : Blk), ⟨[.int .i64 p, lv 3 j1 q1 o.length], true, true⟩, ⟨[.int .i64 p, lv 3 j2 q2 i.length], true, true⟩] = H0 at hp0 hx0 hx1 hx2 ⊢
  refine l01Is' (hu.pre hp0) hl _ ?_
  intro H1 hp1
  obtain ⟨f0, f1, f2⟩ := (hx2.pre hp1).sys
  cases hs1 : sysB p o with
  | false =>
    have fin := h H1 (hp0.trans hp1)
    simp only [tradeB, hs1, Bool.false_and] at fin
    simp (maxSteps := 1000000) [go_sem, undef]
    exact fin
  | true =>
    have hS1 := sysB_of hs1
    simp (maxSteps := 1000000) [go_sem, f0]
    refine l01Is' (hw.pre (hp0.trans hp1)) hl' _ ?_
    intro H2 hp2
    have hp02 := hp0.trans (hp1.trans hp2)
    obtain ⟨d0, d1, d2, d3⟩ := (hx0.pre (hp1.trans hp2)).tr
    cases hs2 : sysB p i with
    | false =>
      have fin := h H2 hp02
      simp only [tradeB, hs1, hs2, Bool.false_and, Bool.and_false] at fin
      simp (maxSteps := 1000000) [go_sem, undef]
      exact fin
    | true =>
      have hS2 := sysB_of hs2
      simp (maxSteps := 1000000) [go_sem, d2, d3]
      refine l04Same_ok (hu.pre hp02) (hw.pre hp02) hS1.good15 hS2.good15 hl hl' _ ?_
      intro H3 hp3
      have hp03 := hp02.trans hp3
      cases hs3 : samePairs o i with
      | false =>
        have fin := h H3 hp03
        simp only [tradeB, hs1, hs2, hs3, Bool.and_false] at fin
        simp (maxSteps := 1000000) [go_sem]
        exact fin
      | true =>
        simp (maxSteps := 1000000) [go_sem]
        refine AWp.loopVc (fun s : Nat => [(1, .pointer (some ⟨H.length, 0, none⟩)), (5, .int .i64 s)])
          (fun s H' => s ≤ o.length ∧ H3 <+: H' ∧ ∀ b ∈ o.take s, memB i b = false) (fun s => o.length - s) 0 ?_ ?_ ?_
        · simp [upF, Fr.get, Up.refl]
        · exact ⟨by omega, List.prefix_refl _, by simp⟩
        · rintro K s H4 ⟨hs, hp4, hf⟩ hK
          obtain ⟨d0, d1, d2, d3⟩ := (hx0.pre ((hp1.trans hp2).trans (hp3.trans hp4))).tr
          have hu4 := hu.pre (hp03.trans hp4)
          have hw4 := hw.pre (hp03.trans hp4)
          obtain ⟨j, q, eu, g1, g2⟩ := hu4
          cases eu
          by_cases hlt : s < o.length
          · have hbs : o[s]? = some o[s] := List.getElem?_eq_getElem hlt
            have c1 := g1.bk hbs
            simp only [Bk.cells] at c1
            have htk := List.take_succ_eq_append_getElem hlt
            have hmem := List.mem_of_getElem? hbs
            generalize o[s] = b at *
            have hw_s : IntKind.i64.wrap ((s : Int) + 1) = (s : Int) + 1 := i64w (by omega) (by omega)
            simp (maxSteps := 1000000) [go_sem, hlt, d2]
            refine AWp.draw mixed [(0, false), (1, false), (2, false), (3, false), (4, false), (5, false), (6, false), (7, false)] (by kernel_rfl) ?_
            simp (maxSteps := 1000000) [go_sem, hlt, d2, d3, c1]
            refine l04Member_ok (b := b) hw4 _ ?_
            intro H5 hp5
            cases hm : memB i b with
            | true =>
              have fin := h H5 ((hp03.trans hp4).trans hp5)
              have e : ¬ bothB o i = [] := fun e => by rw [bothB_nil.1 e b hmem] at hm; cases hm
              simp only [tradeB, hs1, hs2, decide_eq_false e, Bool.false_and, Bool.and_false] at fin
              simp (maxSteps := 1000000) [go_sem]
              exact fin
            | false =>
              simp (maxSteps := 1000000) [go_sem, hw_s]
              refine hK (s + 1) _ _ (by omega) (by simp [upF, Fr.get, Up.refl]) ⟨by omega, hp4.trans hp5, ?_⟩
              intro x hx
              rw [htk, List.mem_append] at hx
              rcases hx with hx | hx
              · exact hf x hx
              · simp at hx; subst hx; exact hm
          · have : s = o.length := by omega
            subst this
            rw [List.take_length] at hf
            have fin := h H4 (hp03.trans hp4)
            have e : bothB o i = [] := bothB_nil.2 hf
            simp only [tradeB, hs1, hs2, hs3, e, decide_true, Bool.true_and] at fin
            simp (maxSteps := 1000000) [go_sem, d2]
            exact fin

end Go.Proofs.Ytdfeoccjllljiaa
end

section
/- Trades as arguments and results: shapes, sizes, copies, equality, marks. -/
set_option linter.all false
set_option maxRecDepth 20000
set_option maxHeartbeats 8000000
namespace Go.Proofs.Ytdfeoccjllljiaa
open Go.Ab

def shTrade : Shape := ⟨24, true, cFields [cInt .i64, cBks, cBks]⟩
theorem fits_shTrade {D : Type} {enc : TypeId × Value → D} (W : World) : shTrade.fits enc Try.prog W :=
  ⟨cFields_stable _ (by intro p hp; simp only [List.mem_cons, List.not_mem_nil, or_false] at hp; rcases hp with rfl | rfl | rfl; exact cInt_stable _; exact cSl_stable (cMany_stable (cInt_stable _) 3); exact cSl_stable (cMany_stable (cInt_stable _) 3)),
   open_cStruct Try.underlying24 (by kernel_rfl) ⟨by kernel_rfl, by kernel_rfl, cInt_stable _, open_cInt Try.underlying2, by kernel_rfl, by kernel_rfl, cSl_stable (cMany_stable (cInt_stable _) 3), open_bks W, by kernel_rfl, by kernel_rfl, cSl_stable (cMany_stable (cInt_stable _) 3), open_bks W, trivial⟩,
   by show (match Try.prog.underlying 24 with | _ => _); rw [Try.underlying24]; rfl⟩

def TradeAt0 (H : Heap) (u w : Value) (o i : List Bk) : Prop := BlocksAt0 H u o ∧ BlocksAt0 H w i
def TradeAt (H : Heap) (u w : Value) (o i : List Bk) : Prop := BlocksAt H u o ∧ BlocksAt H w i
theorem TradeAt0.pre {H H' : Heap} (hp : H <+: H') {u w : Value} {o i : List Bk} (h : TradeAt0 H u w o i) : TradeAt0 H' u w o i := ⟨h.1.pre hp, h.2.pre hp⟩
theorem TradeAt.pre {H H' : Heap} (hp : H <+: H') {u w : Value} {o i : List Bk} (h : TradeAt H u w o i) : TradeAt H' u w o i := ⟨h.1.pre hp, h.2.pre hp⟩
theorem TradeAt0.at {H : Heap} {u w : Value} {o i : List Bk} (h : TradeAt0 H u w o i) (hl : o.length ≤ 1048576 ∧ i.length ≤ 1048576) : TradeAt H u w o i := ⟨h.1.at (by omega), h.2.at (by omega)⟩
def TradeIn (a b : Nat) (H : Heap) (u w : Value) (o i : List Bk) : Prop := ∃ m, a ≤ m ∧ m ≤ b ∧ BlocksIn a m H u o ∧ BlocksIn m b H w i
theorem TradeIn.keep {a b : Nat} {H H' : Heap} {u w : Value} {o i : List Bk} (h : TradeIn a b H u w o i) {S : Nat → Prop} (hs : Same S H H') (hd : ∀ j, Span a b j → ¬ S j) : TradeIn a b H' u w o i := by
  obtain ⟨m, h1, h2, h3, h4⟩ := h
  exact ⟨m, h1, h2, h3.keep hs (fun j hj => hd j ⟨hj.1, by have := hj.2; omega⟩), h4.keep hs (fun j hj => hd j ⟨by have := hj.1; omega, hj.2⟩)⟩
theorem TradeIn.pre {a b : Nat} {H H' : Heap} (hp : H <+: H') {u w : Value} {o i : List Bk} (h : TradeIn a b H u w o i) : TradeIn a b H' u w o i := h.keep (S := fun _ => False) (Same.of_prefix hp) (fun _ _ h => h)
theorem TradeIn.read {a b : Nat} {H : Heap} {u w : Value} {o i : List Bk} (h : TradeIn a b H u w o i) : TradeAt H u w o i := by obtain ⟨m, _, _, h3, h4⟩ := h; exact ⟨h3.read, h4.read⟩
theorem TradeAt.one {H : Heap} {u w : Value} {o i : List Bk} (h : TradeAt H u w o i) : u.oneCell' = true ∧ w.oneCell' = true := ⟨h.1.one, h.2.one⟩
theorem TradeIn.wider {a b c : Nat} {H : Heap} {u w : Value} {o i : List Bk} (h : TradeIn a b H u w o i) (hc : c ≤ a) : TradeIn c b H u w o i := by
  obtain ⟨m, h1, h2, h3, h4⟩ := h; exact ⟨m, by omega, h2, h3.wider hc, h4⟩
theorem TradeIn.nil {a b : Nat} (h : a ≤ b) (H : Heap) : TradeIn a b H (lv 3 0 0 0) (lv 3 0 0 0) [] [] := ⟨a, Nat.le_refl _, h, BlocksIn.nil _ _ _, BlocksIn.nil _ _ _⟩
def MarkTr (a b : Nat) (H : Heap) (u w : Value) (k : Int) (n m : Nat) : Prop := ∃ c, a ≤ c ∧ c ≤ b ∧ MarkIn 3 a c H u k n ∧ MarkIn 3 c b H w (k + (n * 3 : Nat)) m
theorem MarkTr.keep {a b : Nat} {H H' : Heap} {u w : Value} {k : Int} {n m : Nat} (h : MarkTr a b H u w k n m) {S : Nat → Prop} (hs : Same S H H') (hd : ∀ j, Span a b j → ¬ S j) : MarkTr a b H' u w k n m := by
  obtain ⟨c, h1, h2, h3, h4⟩ := h
  exact ⟨c, h1, h2, h3.keep hs (fun j hj => hd j ⟨hj.1, by have := hj.2; omega⟩), h4.keep hs (fun j hj => hd j ⟨by have := hj.1; omega, hj.2⟩)⟩
theorem MarkTr.pre {a b : Nat} {H H' : Heap} (hp : H <+: H') {u w : Value} {k : Int} {n m : Nat} (h : MarkTr a b H u w k n m) : MarkTr a b H' u w k n m := h.keep (S := fun _ => False) (Same.of_prefix hp) (fun _ _ h => h)

theorem says_shTrade {H : Heap} {v : Value} (h : shTrade.says H v) : ∃ p u w o i, v = tradeV p u w ∧ In64 p ∧ TradeAt0 H u w o i := by
  obtain ⟨acs, rfl, x, us, rfl, ⟨p, h1, h2⟩, y, us', rfl, h3, z, us'', rfl, h4, rfl⟩ := h
  simp only [List.cons.injEq, and_true] at h1
  subst h1
  obtain ⟨bs, h5, h6⟩ := says_bks h3
  obtain ⟨cs, h7, h8⟩ := says_bks h4
  exact ⟨p, y, z, bs, cs, rfl, In64.of_wf h2, h5, h7⟩

theorem szTrade0_ok {H : Heap} {u w : Value} {p : Int} {o i : List Bk} {k : Int} (ht : TradeAt0 H u w o i) (hk0 : 0 ≤ k) (hk : k ≤ 1048576) (Post : Value → Heap → Prop)
    (h : ∀ H', H <+: H' → Post (.int .i64 (if k < o.length then -1 else if k - o.length < i.length then -1 else k - o.length - i.length)) H') :
    ACalls Try.prog 17 [tradeV p u w, .int .i64 k] H Post := by
  have ou : u.oneCell' = true := by obtain ⟨⟨a, b, rfl, _⟩, _⟩ := ht; rfl
  have ow : w.oneCell' = true := by obtain ⟨_, ⟨a, b, rfl, _⟩⟩ := ht; rfl
  refine acalls_vc (rs := [.tmp 4]) Try.func17 rfl rfl Try.ntmps17 rfl rfl ?_
  simp (maxSteps := 1000000) [go_sem, tradeV, ou, ow]
  have hp0 : H <+: H ++ [⟨[.int .i64 p, u, w], true, true⟩] := List.prefix_append _ _
  have hx0 := Holds.last H [.int .i64 p, u, w]
  generalize H ++ [(⟨[.int .i64 p, u, w], true, true⟩ : Blk)] = H0 at hp0 hx0 ⊢
  obtain ⟨d0, d1, d2, d3⟩ := hx0.tr
  have fin := h H0 hp0
  refine szBlockS0_ok (ht.1.pre hp0) hk0 hk _ ?_
  by_cases h1 : k < o.length
  · rw [if_pos h1] at fin ⊢
    simp (maxSteps := 1000000) [go_sem]
    exact fin
  · rw [if_neg h1] at fin ⊢
    have n1 : ¬ (k - (o.length : Int) < 0) := by omega
    simp (maxSteps := 1000000) [go_sem, n1, d3]
    refine szBlockS0_ok (ht.2.pre hp0) (by omega) (by omega) _ ?_
    by_cases h2 : k - o.length < i.length
    · rw [if_pos h2] at fin ⊢
      simp (maxSteps := 1000000) [go_sem]
      exact fin
    · rw [if_neg h2] at fin ⊢
      have n2 : ¬ (k - (o.length : Int) - i.length < 0) := by omega
      simp (maxSteps := 1000000) [go_sem, n2]
      exact fin

theorem toTr_ok {H : Heap} {u w : Value} {p : Int} {o i : List Bk} (ht : TradeAt H u w o i) (hl : o.length ≤ 1048576 ∧ i.length ≤ 1048576) (Post : Value → Heap → Prop)
    (h : ∀ H' v x, H <+: H' → TradeIn H.length H'.length H' v x o i → Post (tradeV p v x) H') : ACalls Try.prog 19 [tradeV p u w] H Post := by
  obtain ⟨ou, ow⟩ := ht.one
  refine acalls_vc (rs := [.cell 2 30]) Try.func19 rfl rfl Try.ntmps19 rfl rfl ?_
  simp (maxSteps := 1000000) [go_sem, tradeV, ou, ow]
  have hp0 : H <+: H ++ [⟨[.int .i64 p, u, w], true, true⟩, ⟨[.int .i64 0, .slice none 0 0, .slice none 0 0], true, true⟩, ⟨[.int .i64 p, .slice none 0 0, .slice none 0 0], true, true⟩] := List.prefix_append _ _
  have hx0 : Holds (H ++ [(⟨[.int .i64 p, u, w], true, true⟩ : Blk), ⟨[.int .i64 0, .slice none 0 0, .slice none 0 0], true, true⟩, ⟨[.int .i64 p, .slice none 0 0, .slice none 0 0], true, true⟩]) H.length [.int .i64 p, u, w] := ⟨true, by simp⟩
  have hy0 : (H ++ [(⟨[.int .i64 p, u, w], true, true⟩ : Blk), ⟨[.int .i64 0, .slice none 0 0, .slice none 0 0], true, true⟩, ⟨[.int .i64 p, .slice none 0 0, .slice none 0 0], true, true⟩])[H.length + 1]? = some ⟨[.int .i64 0, .slice none 0 0, .slice none 0 0], true, true⟩ := by simp
  have hz0 : (H ++ [(⟨[.int .i64 p, u, w], true, true⟩ : Blk), ⟨[.int .i64 0, .slice none 0 0, .slice none 0 0], true, true⟩, ⟨[.int .i64 p, .slice none 0 0, .slice none 0 0], true, true⟩])[H.length + 2]? = some ⟨[.int .i64 p, .slice none 0 0, .slice none 0 0], true, true⟩ := by simp
  have hlen : (H ++ [(⟨[.int .i64 p, u, w], true, true⟩ : Blk), ⟨[.int .i64 0, .slice none 0 0, .slice none 0 0], true, true⟩, ⟨[.int .i64 p, .slice none 0 0, .slice none 0 0], true, true⟩]).length = H.length + 3 := by simp
  generalize H ++ [(⟨[.int .i64 p, u, w], true, true⟩ : Blk), ⟨[.int .i64 0, .slice none 0 0, .slice none 0 0], true, true⟩, ⟨[.int .i64 p, .slice none 0 0, .slice none 0 0], true, true⟩] = H0 at hp0 hx0 hy0 hz0 hlen ⊢
  refine toBlockS_ok (ht.1.pre hp0) _ hl.1 ?_
  intro H1 v1 id1 hp1 hid1 ho1
  have e1 := ho1.1
  subst e1
  have hz1 : H1[H.length + 2]? = _ := Same.get (S := fun _ => False) (Same.of_prefix hp1) hz0 (fun h => h)
  have one1 : (lv 3 id1 0 o.length).oneCell' = true := rfl
  have st1 : storeAt H1 (H.length + 2) 1 [(lv 3 id1 0 o.length)] = some (H1.set (H.length + 2) ⟨[.int .i64 p, (lv 3 id1 0 o.length), .slice none 0 0], true, true⟩) := by
    rw [storeAt_of hz1 rfl rfl (by simp) (by simp [one1])]; rfl
  have hlt1 := (List.getElem?_eq_some_iff.1 hz1).1
  have hz2 : (H1.set (H.length + 2) ⟨[.int .i64 p, (lv 3 id1 0 o.length), .slice none 0 0], true, true⟩)[H.length + 2]? = some ⟨[.int .i64 p, (lv 3 id1 0 o.length), .slice none 0 0], true, true⟩ := List.getElem?_set_self hlt1
  have hs1 : Same (fun k => k = H.length + 2) H1 (H1.set (H.length + 2) ⟨[.int .i64 p, (lv 3 id1 0 o.length), .slice none 0 0], true, true⟩) := same_set
  have hsA : Same (fun k => k = H.length + 2) H0 (H1.set (H.length + 2) ⟨[.int .i64 p, (lv 3 id1 0 o.length), .slice none 0 0], true, true⟩) := (Same.of_prefix hp1).trans hs1
  simp (maxSteps := 1000000) [go_sem, st1]
  have hlA : (H1.set (H.length + 2) ⟨[.int .i64 p, (lv 3 id1 0 o.length), .slice none 0 0], true, true⟩).length = H1.length := by simp
  generalize H1.set (H.length + 2) ⟨[.int .i64 p, (lv 3 id1 0 o.length), .slice none 0 0], true, true⟩ = HA at *
  have hpA : H <+: HA := ((Same.of_prefix (S := fun k => k = H.length + 2) hp0).trans hsA).prefix (by intro j hj e; omega)
  have hxA := hx0.keepS hsA (by omega)
  obtain ⟨d0, d1, d2, d3⟩ := hxA.tr
  simp (maxSteps := 1000000) [go_sem, d3]
  refine toBlockS_ok (ht.2.pre hpA) _ hl.2 ?_
  intro H2 v2 id2 hp2 hid2 ho2
  have e2 := ho2.1
  subst e2
  have one2 : (lv 3 id2 0 i.length).oneCell' = true := rfl
  have hzB : H2[H.length + 2]? = _ := Same.get (S := fun _ => False) (Same.of_prefix hp2) hz2 (fun h => h)
  have st2 : storeAt H2 (H.length + 2) 2 [(lv 3 id2 0 i.length)] = some (H2.set (H.length + 2) ⟨[.int .i64 p, (lv 3 id1 0 o.length), (lv 3 id2 0 i.length)], true, true⟩) := by
    rw [storeAt_of hzB rfl rfl (by simp) (by simp [one2])]; rfl
  have hltB := (List.getElem?_eq_some_iff.1 hzB).1
  have hzC : (H2.set (H.length + 2) ⟨[.int .i64 p, (lv 3 id1 0 o.length), (lv 3 id2 0 i.length)], true, true⟩)[H.length + 2]? = some ⟨[.int .i64 p, (lv 3 id1 0 o.length), (lv 3 id2 0 i.length)], true, true⟩ := List.getElem?_set_self hltB
  have hsC : Same (fun k => k = H.length + 2) H2 (H2.set (H.length + 2) ⟨[.int .i64 p, (lv 3 id1 0 o.length), (lv 3 id2 0 i.length)], true, true⟩) := same_set
  have hlC : (H2.set (H.length + 2) ⟨[.int .i64 p, (lv 3 id1 0 o.length), (lv 3 id2 0 i.length)], true, true⟩).length = H2.length := by simp
  simp (maxSteps := 1000000) [go_sem, st2]
  generalize H2.set (H.length + 2) ⟨[.int .i64 p, (lv 3 id1 0 o.length), (lv 3 id2 0 i.length)], true, true⟩ = HC at *
  have hs02 : Same (fun k => k = H.length + 2) H0 HC := hsA.trans ((Same.of_prefix hp2).trans hsC)
  have hyC := hs02.get hy0 (by omega)
  have hltC := (List.getElem?_eq_some_iff.1 hyC).1
  have ldC : cellsAt HC (H.length + 2) 0 3 = some [.int .i64 p, (lv 3 id1 0 o.length), (lv 3 id2 0 i.length)] := by rw [cellsAt_of hzC rfl (by simp)]; rfl
  have st3 : storeAt HC (H.length + 1) 0 [.int .i64 p, (lv 3 id1 0 o.length), (lv 3 id2 0 i.length)] = some (HC.set (H.length + 1) ⟨[.int .i64 p, (lv 3 id1 0 o.length), (lv 3 id2 0 i.length)], true, true⟩) := by
    rw [storeAt_of hyC rfl rfl (by simp) (by simp [one1, one2, Value.oneCell'])]; rfl
  have hsD : Same (fun k => k = H.length + 1) HC (HC.set (H.length + 1) ⟨[.int .i64 p, (lv 3 id1 0 o.length), (lv 3 id2 0 i.length)], true, true⟩) := same_set
  have hyD : (HC.set (H.length + 1) ⟨[.int .i64 p, (lv 3 id1 0 o.length), (lv 3 id2 0 i.length)], true, true⟩)[H.length + 1]? = some ⟨[.int .i64 p, (lv 3 id1 0 o.length), (lv 3 id2 0 i.length)], true, true⟩ := List.getElem?_set_self hltC
  have hlD : (HC.set (H.length + 1) ⟨[.int .i64 p, (lv 3 id1 0 o.length), (lv 3 id2 0 i.length)], true, true⟩).length = HC.length := by simp
  simp (maxSteps := 1000000) [go_sem, ldC, st3]
  generalize HC.set (H.length + 1) ⟨[.int .i64 p, (lv 3 id1 0 o.length), (lv 3 id2 0 i.length)], true, true⟩ = HD at *
  have ldD : cellsAt HD (H.length + 1) 0 3 = some [.int .i64 p, (lv 3 id1 0 o.length), (lv 3 id2 0 i.length)] := by rw [cellsAt_of hyD rfl (by simp)]; rfl
  have hle1 := hp1.length_le
  have hle2 := hp2.length_le
  have b1 : BlocksIn H.length H1.length H1 (lv 3 id1 0 o.length) o := (OwnBlocks.inn ho1 (by omega)).wider (by omega)
  have b2 : BlocksIn HA.length H2.length H2 (lv 3 id2 0 i.length) i := OwnBlocks.inn ho2 hid2
  have hin : TradeIn H.length HD.length HD (lv 3 id1 0 o.length) (lv 3 id2 0 i.length) o i := by
    have hid : o ≠ [] → H0.length ≤ id1 := fun _ => hid1
    refine ⟨H1.length, by omega, by omega, ?_, ?_⟩
    · have b1' : BlocksIn H0.length H1.length H1 (lv 3 id1 0 o.length) o := OwnBlocks.inn ho1 hid1
      have b1A : BlocksIn H0.length H1.length HA (lv 3 id1 0 o.length) o := b1'.keep hs1 (fun j hj e => by have := hj.1; omega)
      have b1B := b1A.pre hp2
      have b1C : BlocksIn H0.length H1.length HC (lv 3 id1 0 o.length) o := b1B.keep hsC (fun j hj e => by have := hj.1; omega)
      exact (b1C.keep hsD (fun j hj e => by have := hj.1; omega)).wider (by omega)
    · have b2C : BlocksIn HA.length H2.length HC (lv 3 id2 0 i.length) i := b2.keep hsC (fun j hj e => by have := hj.1; omega)
      have b2D : BlocksIn HA.length H2.length HD (lv 3 id2 0 i.length) i := b2C.keep hsD (fun j hj e => by have := hj.1; omega)
      rw [hlA, ← hlC, ← hlD] at b2D
      exact b2D
  have hpD : H <+: HD := ((Same.of_prefix (S := fun k => k = H.length + 1 ∨ k = H.length + 2) hp0).trans ((hs02.mono fun _ _ e => .inr e).trans (hsD.mono fun _ _ e => .inl e))).prefix (by intro j hj e; omega)
  have fin := h HD (lv 3 id1 0 o.length) (lv 3 id2 0 i.length) hpD hin
  simp (maxSteps := 1000000) [go_sem, ldD]
  exact fin

end Go.Proofs.Ytdfeoccjllljiaa
end

section
/- Trades: equality, marks. -/
set_option linter.all false
set_option maxRecDepth 20000
set_option maxHeartbeats 8000000
namespace Go.Proofs.Ytdfeoccjllljiaa
open Go.Ab

theorem eqTrade_ok {H : Heap} {u w u' w' : Value} {p q : Int} {o i o' i' : List Bk} (h1 : TradeAt H u w o i) (h2 : TradeAt H u' w' o' i') (Post : Value → Heap → Prop)
    (h : ∀ H', H <+: H' → Post (.bool (decide (p = q ∧ o = o' ∧ i = i'))) H') : ACalls Try.prog 21 [tradeV p u w, tradeV q u' w'] H Post := by
  obtain ⟨a1, a2⟩ := h1.one
  obtain ⟨b1, b2⟩ := h2.one
  refine acalls_vc (rs := [.tmp 4]) Try.func21 rfl rfl Try.ntmps21 rfl rfl ?_
  simp (maxSteps := 1000000) [go_sem, tradeV, a1, a2, b1, b2]
  have hp0 : H <+: H ++ [⟨[.int .i64 p, u, w], true, true⟩, ⟨[.int .i64 q, u', w'], true, true⟩] := List.prefix_append _ _
  have hx0 : Holds (H ++ [(⟨[.int .i64 p, u, w], true, true⟩ : Blk), ⟨[.int .i64 q, u', w'], true, true⟩]) H.length [.int .i64 p, u, w] := ⟨true, by simp⟩
  have hy0 : Holds (H ++ [(⟨[.int .i64 p, u, w], true, true⟩ : Blk), ⟨[.int .i64 q, u', w'], true, true⟩]) (H.length + 1) [.int .i64 q, u', w'] := ⟨true, by simp⟩
  generalize H ++ [(⟨[.int .i64 p, u, w], true, true⟩ : Blk), ⟨[.int .i64 q, u', w'], true, true⟩] = H0 at hp0 hx0 hy0 ⊢
  refine condK_intro (fun hne => ?_) (fun heq => ?_)
  · have : ¬ p = q := by simpa using hne
    simpa [this] using h H0 hp0
  · have : p = q := by simpa using heq
    subst this
    refine eqBlockS_ok (h1.1.pre hp0) (h2.1.pre hp0) _ ?_
    intro H1 hp1
    obtain ⟨d0, d1, d2, d3⟩ := (hx0.pre hp1).tr
    obtain ⟨e0, e1, e2, e3⟩ := (hy0.pre hp1).tr
    by_cases ho : o = o'
    · subst ho
      simp (maxSteps := 1000000) [go_sem, d3, e3]
      refine eqBlockS_ok (h1.2.pre (hp0.trans hp1)) (h2.2.pre (hp0.trans hp1)) _ ?_
      intro H2 hp2
      have fin := h H2 (hp0.trans (hp1.trans hp2))
      by_cases hi : i = i'
      · subst hi
        simp (maxSteps := 1000000) [go_sem]
        simpa using fin
      · simp (maxSteps := 1000000) [go_sem, hi]
        simpa [hi] using fin
    · have fin := h H1 (hp0.trans hp1)
      simp (maxSteps := 1000000) [go_sem, ho]
      simpa [ho] using fin

theorem markTr_ok {a b : Nat} {H : Heap} {u w : Value} {p : Int} {o i : List Bk} {k : Int} (ht : TradeIn a b H u w o i) (hb : b ≤ H.length) (hl : o.length ≤ 1048576 ∧ i.length ≤ 1048576) (hk0 : 0 ≤ k) (hk : k ≤ 100000000) (Post : Value → Heap → Prop)
    (hP : ∀ H', Same (Span a b) H H' → MarkTr a b H' u w k o.length i.length → Post (.int .i64 (k + ((o.length + i.length) * 3 : Nat))) H') : ACalls Try.prog 32 [tradeV p u w, .int .i64 k] H Post := by
  obtain ⟨a1, a2⟩ := ht.read.one
  obtain ⟨m, hm1, hm2, h1, h2⟩ := ht
  refine acalls_vc (rs := [.tmp 4]) Try.func32 rfl rfl Try.ntmps32 rfl rfl ?_
  simp (maxSteps := 1000000) [go_sem, tradeV, a1, a2]
  have hp0 : H <+: H ++ [⟨[.int .i64 p, u, w], true, true⟩] := List.prefix_append _ _
  have hx0 := Holds.last H [.int .i64 p, u, w]
  generalize H ++ [(⟨[.int .i64 p, u, w], true, true⟩ : Blk)] = H0 at hp0 hx0 ⊢
  refine markBlocks_ok (h1.pre hp0) hk0 (by omega) _ ?_
  intro H1 hs1 hm1'
  have hx1 := hx0.keepS hs1 (by rintro ⟨e1, e2⟩; omega)
  obtain ⟨d0, d1, d2, d3⟩ := hx1.tr
  have h2' := (h2.pre hp0).keep hs1 (by rintro j ⟨e1, e2⟩ ⟨e3, e4⟩; omega)
  obtain ⟨n, hn⟩ : ∃ n : Nat, n = o.length * 3 := ⟨_, rfl⟩
  rw [← hn]
  have hc : k + ((o.length * 3 : Nat) : Int) = k + n := by rw [hn]
  simp (maxSteps := 1000000) [go_sem, d3]
  refine markBlocks_ok h2' (by omega) (by omega) _ ?_
  intro H2 hs2 hm2'
  have hs : Same (Span a b) H H2 := (Same.of_prefix hp0).trans ((hs1.mono fun j _ ⟨e1, e2⟩ => ⟨e1, by omega⟩).trans (hs2.mono fun j _ ⟨e1, e2⟩ => ⟨by omega, e2⟩))
  have fin := hP H2 hs ⟨m, hm1, hm2, hm1'.keep hs2 (by rintro j ⟨e1, e2⟩ ⟨e3, e4⟩; omega), by rw [hc]; exact hm2'⟩
  have e : k + (((o.length + i.length) * 3 : Nat) : Int) = k + (n : Int) + ((i.length * 3 : Nat) : Int) := by rw [hn]; omega
  rw [e] at fin
  simp (maxSteps := 1000000) [go_sem]
  simpa using fin

end Go.Proofs.Ytdfeoccjllljiaa
end

section
/- Lists of trades in memory: what a call builds, what is marked, what is read. -/
set_option linter.all false
set_option maxRecDepth 20000
set_option maxHeartbeats 8000000
namespace Go.Proofs.Ytdfeoccjllljiaa
open Go.Ab

/-- A trade's cells, its lists in a span of the heap. -/
structure Rw where
  p : Int
  u : Value
  w : Value
  lo : Nat
  hi : Nat
  o : List Bk
  i : List Bk
def Rw.cells (r : Rw) : List Value := [.int .i64 r.p, r.u, r.w]
def Rw.t (r : Rw) : List Bk × List Bk := (r.o, r.i)
def cellsT (rows : List Rw) : List Value := rows.flatMap Rw.cells
theorem cellsT_len : ∀ rows : List Rw, (cellsT rows).length = rows.length * 3
  | [] => rfl
  | r :: rows => by rw [cellsT, List.flatMap_cons, List.length_append, ← cellsT, cellsT_len rows, List.length_cons]; simp [Rw.cells]; omega
theorem cellsT_append (a b : List Rw) : cellsT (a ++ b) = cellsT a ++ cellsT b := by simp [cellsT]
theorem cellsT_one (r : Rw) : cellsT [r] = r.cells := by simp [cellsT]
theorem rows_split {rows : List Rw} {s : Nat} {r : Rw} (h : rows[s]? = some r) : rows = rows.take s ++ r :: rows.drop (s + 1) ∧ (rows.take s).length = s := by
  obtain ⟨hl, rfl⟩ := List.getElem?_eq_some_iff.1 h
  refine ⟨?_, by simp; omega⟩
  conv => lhs; rw [← List.take_append_drop s rows, List.drop_eq_getElem_cons hl]
theorem cellsT_drop {rows : List Rw} {s : Nat} {r : Rw} (h : rows[s]? = some r) : (cellsT rows).drop (s * 3) = r.cells ++ cellsT (rows.drop (s + 1)) := by
  obtain ⟨e, hl⟩ := rows_split h
  conv => lhs; rw [e, cellsT_append]
  rw [List.drop_append_of_le_length (by rw [cellsT_len, hl]; omega), List.drop_of_length_le (by rw [cellsT_len, hl]; omega), List.nil_append]
  simp [cellsT]
theorem cellsT_get {rows : List Rw} {s : Nat} {r : Rw} (h : rows[s]? = some r) {j : Nat} (hj : j < 3) : (cellsT rows)[s * 3 + j]? = r.cells[j]? := by
  rw [← List.getElem?_drop, cellsT_drop h, List.getElem?_append_left (by simp [Rw.cells]; omega)]
theorem cellsT_over {rows : List Rw} {s : Nat} {r : Rw} (h : rows[s]? = some r) (k : Int) : over (cellsT rows) (s * 3) [.int .i64 k] = cellsT (rows.set s { r with p := k }) := by
  obtain ⟨e, hl⟩ := rows_split h
  have hs : rows.set s { r with p := k } = rows.take s ++ { r with p := k } :: rows.drop (s + 1) := by
    conv => lhs; rw [e]
    rw [List.set_append, if_neg (by omega), hl, Nat.sub_self]; rfl
  have ht : (cellsT rows).take (s * 3) = cellsT (rows.take s) := by
    conv => lhs; rw [e, cellsT_append]
    rw [List.take_append_of_le_length (by rw [cellsT_len, hl]; omega), List.take_of_length_le (by rw [cellsT_len, hl]; omega)]
  have hd : (cellsT rows).drop (s * 3 + 1) = r.cells.drop 1 ++ cellsT (rows.drop (s + 1)) := by
    rw [← List.drop_drop, cellsT_drop h]; simp [Rw.cells]
  rw [hs, cellsT_append, over, ht]
  simp only [List.length_cons, List.length_nil, Nat.zero_add]
  rw [hd]
  simp [cellsT, Rw.cells]

structure BuildT (H0 H : Heap) (oid : Nat) (rows : List Rw) : Prop where
  pre : H0 <+: H
  ol : OL 3 H oid (cellsT rows) rows.length
  ge : H0.length ≤ oid
  spans : ∀ r ∈ rows, H0.length ≤ r.lo ∧ r.hi ≤ H.length ∧ (oid < r.lo ∨ r.hi ≤ oid) ∧ TradeIn r.lo r.hi H r.u r.w r.o r.i
  asc : rows.Pairwise fun x y => x.hi ≤ y.lo
theorem BuildT.start (H : Heap) : BuildT H (H ++ [⟨[], false, false⟩]) H.length [] := ⟨List.prefix_append _ _, OL.ghost 3 H, Nat.le_refl _, by simp, List.Pairwise.nil⟩
theorem BuildT.nil (H : Heap) : BuildT H (H ++ [⟨[], true, true⟩]) H.length [] := ⟨List.prefix_append _ _, ⟨by simp [cellsT], .inr (by simp [cellsT])⟩, Nat.le_refl _, by simp, List.Pairwise.nil⟩
theorem BuildT.keep {H0 H H' : Heap} {oid : Nat} {rows : List Rw} (h : BuildT H0 H oid rows) (hp : H <+: H') : BuildT H0 H' oid rows :=
  ⟨h.pre.trans hp, h.ol.keep (S := fun _ => False) (Same.of_prefix hp) (fun h => h), h.ge, fun r hr => by
    obtain ⟨a, b, c, d⟩ := h.spans r hr; exact ⟨a, by have := hp.length_le; omega, c, d.pre hp⟩, h.asc⟩
theorem BuildT.lower {H0 H1 H : Heap} {oid : Nat} {rows : List Rw} (h : BuildT H1 H oid rows) (hp : H0 <+: H1) : BuildT H0 H oid rows :=
  ⟨hp.trans h.pre, h.ol, by have := hp.length_le; have := h.ge; omega, fun r hr => by
    obtain ⟨a, b, c, d⟩ := h.spans r hr; exact ⟨by have := hp.length_le; omega, b, c, d⟩, h.asc⟩
theorem BuildT.push {H0 H1 H2 : Heap} {oid : Nat} {rows : List Rw} {r : Rw} (h : BuildT H0 H1 oid rows) (hp : H1 <+: H2) (hr : TradeIn r.lo r.hi H2 r.u r.w r.o r.i) (hlo : H1.length ≤ r.lo) (hhi : r.hi ≤ H2.length) (hle : r.lo ≤ r.hi) :
    cellsAt (H2 ++ [⟨r.cells, true, true⟩]) H2.length 0 3 = some r.cells ∧
    ∃ H4, appendH (H2 ++ [⟨r.cells, true, true⟩]) 3 (lv 3 oid 0 rows.length) 1 r.cells = some (lv 3 (H2.length + 1) 0 (rows.length + 1), H4) ∧ BuildT H0 H4 (H2.length + 1) (rows ++ [r]) ∧ Same (fun j => j = oid) H2 H4 := by
  have h2 := h.keep hp
  obtain ⟨hsrc, H4, hap, hol4, hs4, hl4⟩ := h2.ol.push (xs := r.cells) (by omega) rfl
  have hoid := h.ol.lt
  have hle1 := hp.length_le
  have hle0 := h.pre.length_le
  refine ⟨hsrc, H4, hap, ⟨((Same.of_prefix h2.pre).trans hs4).prefix (by have := h.ge; omega), ?_, by omega, ?_, ?_⟩, hs4⟩
  · rw [cellsT_append, cellsT_one]; simpa using hol4
  · intro x hx
    rcases List.mem_append.1 hx with hx | hx
    · obtain ⟨a, b, c, d⟩ := h.spans x hx
      exact ⟨a, by omega, .inr (by omega), (d.pre hp).keep hs4 (by rintro j ⟨e1, e2⟩ rfl; omega)⟩
    · simp at hx; subst hx
      exact ⟨by omega, by omega, .inr (by omega), hr.keep hs4 (by rintro j ⟨e1, e2⟩ rfl; omega)⟩
  · rw [List.pairwise_append]
    refine ⟨h.asc, List.pairwise_singleton _ _, ?_⟩
    intro x hx y hy
    simp at hy; subst hy
    have := (h.spans x hx).2.1
    omega

def TrIn (a b : Nat) (H : Heap) (v : Value) (p : Int) (ts : List (List Bk × List Bk)) : Prop :=
  ∃ (oid : Nat) (rows : List Rw), v = lv 3 oid 0 rows.length ∧ (rows = [] ∨ H[oid]? = some ⟨cellsT rows, true, true⟩) ∧ (∀ r ∈ rows, a ≤ r.lo ∧ r.hi ≤ b ∧ (oid < r.lo ∨ r.hi ≤ oid) ∧ TradeIn r.lo r.hi H r.u r.w r.o r.i ∧ r.p = p ∧ r.o.length ≤ 100 ∧ r.i.length ≤ 100) ∧
    rows.Pairwise (fun x y => x.hi ≤ y.lo) ∧ rows.map Rw.t = ts ∧ (rows ≠ [] → Span a b oid) ∧ rows.length ≤ 100
def TrAt (H : Heap) (v : Value) (p : Int) (ts : List (List Bk × List Bk)) : Prop :=
  ∃ (oid : Nat) (rows : List Rw), v = lv 3 oid 0 rows.length ∧ At H oid 0 (cellsT rows) ∧ (∀ r ∈ rows, TradeAt H r.u r.w r.o r.i ∧ r.p = p) ∧ rows.map Rw.t = ts ∧ rows.length ≤ 100
theorem TrIn.keep {a b : Nat} {H H' : Heap} {v : Value} {p : Int} {ts : List (List Bk × List Bk)} (h : TrIn a b H v p ts) {S : Nat → Prop} (hs : Same S H H') (hd : ∀ j, Span a b j → ¬ S j) : TrIn a b H' v p ts := by
  obtain ⟨oid, rows, h1, h2, h3, h4, h5, h6, h7⟩ := h
  refine ⟨oid, rows, h1, ?_, fun r hr => ?_, h4, h5, h6, h7⟩
  · by_cases hn : rows = []
    · exact .inl hn
    · exact .inr (hs.get (h2.resolve_left hn) (hd _ (h6 hn)))
  · obtain ⟨x1, x2, x3, x4, x5⟩ := h3 r hr
    exact ⟨x1, x2, x3, x4.keep hs (by rintro j ⟨e1, e2⟩; exact hd j ⟨by omega, by omega⟩), x5⟩
theorem TrIn.pre {a b : Nat} {H H' : Heap} (hp : H <+: H') {v : Value} {p : Int} {ts : List (List Bk × List Bk)} (h : TrIn a b H v p ts) : TrIn a b H' v p ts := h.keep (S := fun _ => False) (Same.of_prefix hp) (fun _ _ h => h)
theorem TrIn.read {a b : Nat} {H : Heap} {v : Value} {p : Int} {ts : List (List Bk × List Bk)} (h : TrIn a b H v p ts) : TrAt H v p ts := by
  obtain ⟨oid, rows, h1, h2, h3, h4, h5, h6, h7⟩ := h
  refine ⟨oid, rows, h1, ?_, fun r hr => ⟨(h3 r hr).2.2.2.1.read, (h3 r hr).2.2.2.2.1⟩, h5, h7⟩
  rcases h2 with rfl | h2
  · exact .inl rfl
  · exact Holds.at ⟨true, h2⟩
theorem TrAt.pre {H H' : Heap} (hp : H <+: H') {v : Value} {p : Int} {ts : List (List Bk × List Bk)} (h : TrAt H v p ts) : TrAt H' v p ts := by
  obtain ⟨oid, rows, h1, h2, h3, h4⟩ := h
  exact ⟨oid, rows, h1, h2.pre hp, fun r hr => ⟨(h3 r hr).1.pre hp, (h3 r hr).2⟩, h4⟩
theorem TrIn.one {a b : Nat} {H : Heap} {v : Value} {p : Int} {ts : List (List Bk × List Bk)} (h : TrIn a b H v p ts) : v.oneCell' = true := by obtain ⟨id, rows, rfl, _⟩ := h; rfl
theorem TrIn.nil (a b : Nat) (H : Heap) (p : Int) : TrIn a b H (lv 3 0 0 0) p [] := ⟨0, [], rfl, .inl rfl, by simp, List.Pairwise.nil, rfl, fun h => absurd rfl h, by simp⟩
theorem TrIn.wider {a b c : Nat} {H : Heap} {v : Value} {p : Int} {ts : List (List Bk × List Bk)} (h : TrIn a b H v p ts) (hc : c ≤ a) : TrIn c b H v p ts := by
  obtain ⟨oid, rows, h1, h2, h3, h4, h5, h6, h7⟩ := h
  exact ⟨oid, rows, h1, h2, fun r hr => by obtain ⟨x1, x⟩ := h3 r hr; exact ⟨by omega, x⟩, h4, h5, fun hn => ⟨by have := (h6 hn).1; omega, (h6 hn).2⟩, h7⟩
theorem BuildT.inn {H0 H : Heap} {oid : Nat} {rows : List Rw} {p : Int} (h : BuildT H0 H oid rows) (hl : rows.length ≤ 100) (hr : ∀ r ∈ rows, r.p = p ∧ r.o.length ≤ 100 ∧ r.i.length ≤ 100) : TrIn H0.length H.length H (lv 3 oid 0 rows.length) p (rows.map Rw.t) := by
  refine ⟨oid, rows, rfl, ?_, fun r hm => ?_, h.asc, rfl, fun _ => ⟨h.ge, h.ol.lt⟩, hl⟩
  · rcases h.ol.2 with ⟨e, _⟩ | e
    · exact .inl (List.eq_nil_of_length_eq_zero e)
    · exact .inr e
  · obtain ⟨a, b, c, d⟩ := h.spans r hm
    exact ⟨a, b, c, d, hr r hm⟩

end Go.Proofs.Ytdfeoccjllljiaa
end
