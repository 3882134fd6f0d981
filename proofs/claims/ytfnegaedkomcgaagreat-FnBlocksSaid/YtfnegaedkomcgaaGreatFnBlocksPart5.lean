/- Part 5 of what the proof of the law FnBlocks rests on: contracts of functions of the program, for every argument that each names; no statement of the seat is proved here. -/
import Derived.Test.YtfnegaedkomcgaaGreatFnBlocksPart4

set_option linter.all false
set_option maxRecDepth 20000
set_option maxHeartbeats 8000000
section
namespace Go.Proofs.YtfnegaedkomcgaaGreat
open Go.Ab Go.Sort

theorem fdivNN (a b : Nat) : ((a : Int).fdiv (b : Int)) = ((a / b : Nat) : Int) := by
  rw [Int.fdiv_eq_ediv_of_nonneg _ (by omega)]; rfl
def tabOK (s : ByteArray) : Bool := (List.range 256).all fun y => match s[y]? with | some v => v.toNat == bitsLen y | none => false
theorem bindO_tab {s : ByteArray} {x : Nat} {K : UInt8 -> Prop} (ht : tabOK s = true) (hx : x < 256) (h : ∀ v : UInt8, v.toNat = bitsLen x -> K v) : bindO s[x]? K := by
  have := List.all_eq_true.1 ht x (List.mem_range.2 hx)
  revert this
  cases hs : s[x]? with
  | none => intro h; cases h
  | some v => intro h2; exact ⟨v, rfl, h v (by simpa using h2)⟩
theorem bitsLen_lt {x k : Nat} (h : x < 2 ^ k) : bitsLen x <= k := (bitsLen_le_iff x k).2 h
theorem bitsLen_shift {x k : Nat} (h : 0 < x / 2 ^ k) : bitsLen x = k + bitsLen (x / 2 ^ k) := by
  have key : ∀ m, bitsLen x <= k + m ↔ bitsLen (x / 2 ^ k) <= m := by
    intro m
    rw [bitsLen_le_iff, bitsLen_le_iff, Nat.div_lt_iff_lt_mul (Nat.two_pow_pos k), <- Nat.pow_add, Nat.add_comm m k]
  have h1 := (key (bitsLen (x / 2 ^ k))).2 (Nat.le_refl _)
  have h2 : k <= bitsLen x := by
    rcases Nat.lt_or_ge (bitsLen x) k with h3 | h3
    · have := (bitsLen_le_iff x k).1 (by omega)
      rw [Nat.div_eq_of_lt this] at h; omega
    · exact h3
  have h3 := (key (bitsLen x - k)).1 (by omega)
  omega

theorem len64_ok {H : Heap} {x : Nat} (hx : x < 2097152) (Post : Value -> Heap -> Prop) (h : Post (.int .i64 (bitsLen x : Nat)) H) : ACalls Tryz.prog 160 [.int .u64 x] H Post := by
  refine acalls_vc (rs := [.tmp 2]) Tryz.func160 rfl rfl Tryz.ntmps160 rfl rfl ?_
  have a1 : ¬ ((4294967296 : Int) <= x) := by omega
  have a6 : ¬ 4294967296 <= x := by omega
  by_cases h1 : x < 256
  · have a2 : ¬ ((65536 : Int) <= x) := by omega
    have a3 : ¬ ((256 : Int) <= x) := by omega
    have a4 : ¬ 65536 <= x := by omega
    have a5 : ¬ 256 <= x := by omega
    have w1 : IntKind.u8.wrap (x : Int) = x := by rw [IntKind.wrap_u8]; omega
    simp (maxSteps := 1000000) [go_sem, a1, a2, a3, a4, a5, a6, w1]
    refine bindO_tab (by kernel_rfl) h1 ?_
    intro v hv
    have hb := bitsLen_lt (x := x) (k := 8) (by omega)
    generalize bitsLen x = L at *
    have w2 : IntKind.i64.wrap (L : Int) = L := i64w (by omega) (by omega)
    simp (maxSteps := 1000000) [go_sem, hv, w2]
    exact h
  · by_cases h2 : x < 65536
    · have a2 : ¬ ((65536 : Int) <= x) := by omega
      have a3 : ((256 : Int) <= x) := by omega
      have a4 : ¬ 65536 <= x := by omega
      have a5 : 256 <= x := by omega
      obtain ⟨y, hy⟩ : ∃ y, y = x / 256 := ⟨_, rfl⟩
      have hsh := bitsLen_shift (x := x) (k := 8) (by show 0 < x / 256; omega)
      have hsh' : bitsLen x = 8 + bitsLen y := by rw [hy]; exact hsh
      rw [hsh'] at h
      have w0 : (x : Int).fdiv 256 = y := by rw [show (256 : Int) = ((256 : Nat) : Int) from rfl, fdivNN, hy]
      have w4 : IntKind.i64.wrap 8 = 8 := i64w (by omega) (by omega)
      have w1 : IntKind.u8.wrap (y : Int) = y := by rw [IntKind.wrap_u8]; omega
      have hb := bitsLen_lt (x := y) (k := 8) (by omega)
      simp (maxSteps := 1000000) [go_sem, a1, a2, a3, a4, a5, a6, w0, w1]
      refine bindO_tab (by kernel_rfl) (show y < 256 by omega) ?_
      intro v hv
      generalize bitsLen y = L at *
      have w2 : IntKind.i64.wrap (L : Int) = L := i64w (by omega) (by omega)
      have w3 : IntKind.i64.wrap (8 + (L : Int)) = 8 + (L : Int) := i64w (by omega) (by omega)
      simp (maxSteps := 1000000) [go_sem, hv, w2, w3, w4]
      simpa using h
    · have a2 : ((65536 : Int) <= x) := by omega
      have a3 : ((256 : Int) <= x) := by omega
      have a4 : 65536 <= x := by omega
      have a5 : 256 <= x := by omega
      obtain ⟨y, hy⟩ : ∃ y, y = x / 65536 := ⟨_, rfl⟩
      have hsh := bitsLen_shift (x := x) (k := 16) (by show 0 < x / 65536; omega)
      have hsh' : bitsLen x = 16 + bitsLen y := by rw [hy]; exact hsh
      rw [hsh'] at h
      have w0 : (x : Int).fdiv 65536 = y := by rw [show (65536 : Int) = ((65536 : Nat) : Int) from rfl, fdivNN, hy]
      have w4 : IntKind.i64.wrap 16 = 16 := i64w (by omega) (by omega)
      have w1 : IntKind.u8.wrap (y : Int) = y := by rw [IntKind.wrap_u8]; omega
      have hb := bitsLen_lt (x := y) (k := 8) (by omega)
      have a7 : ¬ ((256 : Int) <= y) := by omega
      have a8 : ¬ 256 <= y := by omega
      simp (maxSteps := 1000000) [go_sem, a1, a2, a3, a4, a5, a6, w0, w1, a7, a8]
      refine bindO_tab (by kernel_rfl) (show y < 256 by omega) ?_
      intro v hv
      generalize bitsLen y = L at *
      have w2 : IntKind.i64.wrap (L : Int) = L := i64w (by omega) (by omega)
      have w3 : IntKind.i64.wrap (16 + (L : Int)) = 16 + (L : Int) := i64w (by omega) (by omega)
      simp (maxSteps := 1000000) [go_sem, hv, w2, w3, w4]
      simpa using h

theorem bitsLenC_ok {H : Heap} {x : Nat} (hx : x < 2097152) (Post : Value -> Heap -> Prop) (h : Post (.int .i64 (bitsLen x : Nat)) H) : ACalls Tryz.prog 132 [.int .u64 x] H Post := by
  refine acalls_vc (rs := [.tmp 2]) Tryz.func132 rfl rfl Tryz.ntmps132 rfl rfl ?_
  have w1 : IntKind.u64.wrap (x : Int) = x := by rw [IntKind.wrap_u64]; omega
  simp (maxSteps := 1000000) [go_sem, w1]
  refine len64_ok hx _ ?_
  simp (maxSteps := 1000000) [go_sem]
  exact h

theorem nextPow_ok {H : Heap} {x : Nat} (h0 : 0 < x) (hx : x < 2097152) (Post : Value -> Heap -> Prop) (h : ∀ m : Nat, 0 < m -> m <= 2 * x -> Post (.int .u64 m) H) : ACalls Tryz.prog 167 [.int .i64 x] H Post := by
  refine acalls_vc (rs := [.tmp 2]) Tryz.func167 rfl rfl Tryz.ntmps167 rfl rfl ?_
  have w1 : IntKind.u64.wrap (x : Int) = x := by rw [IntKind.wrap_u64]; omega
  simp (maxSteps := 1000000) [go_sem, w1]
  refine bitsLenC_ok hx _ ?_
  have hp := two_pow_bitsLen_le h0
  have hb := bitsLen_lt (x := x) (k := 21) (by omega)
  have fin := h _ (Nat.two_pow_pos (bitsLen x)) hp
  have hcast : ((2 : Int) ^ bitsLen x) = ((2 ^ bitsLen x : Nat) : Int) := by rw [Int.natCast_pow]; rfl
  have hmin : min (bitsLen x) 64 = bitsLen x := by omega
  generalize bitsLen x = L at *
  obtain ⟨T, hT⟩ : ∃ T, T = 2 ^ L := ⟨_, rfl⟩
  rw [<- hT] at hcast hp fin
  have hsh : IntKind.u64.wrap ((2 : Int) ^ L) = T := by rw [hcast, IntKind.wrap_u64]; omega
  simp (maxSteps := 1000000) [go_sem, hmin, hsh]
  exact fin

theorem xorNext_ok {H : Heap} {rid : Nat} {z : Int} (hz : H[rid]? = some ⟨[.int .u64 z], true, true⟩) (Post : Value -> Heap -> Prop)
    (h : ∀ (z' : Nat) (H' : Heap), z' < 18446744073709551616 -> Same (fun k => k = rid) H H' -> H'[rid]? = some ⟨[.int .u64 z'], true, true⟩ -> Post (.int .u64 z') H') :
    ACalls Tryz.prog 168 [.pointer (some ⟨rid, 0, none⟩)] H Post := by
  have hlt := (List.getElem?_eq_some_iff.1 hz).1
  have l0 : cellsAt H rid 0 1 = some [.int .u64 z] := by rw [cellsAt_of hz rfl (by simp)]; rfl
  have s0 : ∀ v : Int, storeAt H rid 0 [.int .u64 v] = some (H.set rid ⟨[.int .u64 v], true, true⟩) := by
    intro v; rw [storeAt_of hz rfl rfl (by simp) (by simp [Value.oneCell'])]; rfl
  have g1 : ∀ v : Int, (H.set rid ⟨[.int .u64 v], true, true⟩)[rid]? = some ⟨[.int .u64 v], true, true⟩ := fun v => List.getElem?_set_self hlt
  have l1 : ∀ v : Int, cellsAt (H.set rid ⟨[.int .u64 v], true, true⟩) rid 0 1 = some [.int .u64 v] := by
    intro v; rw [cellsAt_of (g1 v) rfl (by simp)]; rfl
  have s1 : ∀ v w : Int, storeAt (H.set rid ⟨[.int .u64 v], true, true⟩) rid 0 [.int .u64 w] = some (H.set rid ⟨[.int .u64 w], true, true⟩) := by
    intro v w; rw [storeAt_of (g1 v) rfl rfl (by simp) (by simp [Value.oneCell'])]; simp [over]
  have fin : ∀ v : Int, 0 <= v -> v < 18446744073709551616 -> Post (.int .u64 v) (H.set rid ⟨[.int .u64 v], true, true⟩) := by
    intro v h0 h1
    obtain ⟨k, rfl⟩ : ∃ k : Nat, v = k := ⟨v.toNat, by omega⟩
    exact h k _ (by omega) same_set (g1 _)
  refine acalls_vc (rs := [.tmp 2]) Tryz.func168 rfl rfl Tryz.ntmps168 rfl rfl ?_
  simp (maxSteps := 1000000) [go_sem]
  refine AWp.draw mixed [(0, false), (1, false), (2, false), (3, false), (4, false), (5, false), (6, false), (7, false), (8, false), (9, false)] (by kernel_rfl) ?_
  simp (maxSteps := 1000000) [go_sem, l0, s0]
  refine AWp.draw mixed [(0, false), (1, false), (2, false), (3, false), (4, false), (5, false), (6, false), (7, false), (8, false), (9, false)] (by kernel_rfl) ?_
  simp (maxSteps := 1000000) [go_sem, l1, s1]
  refine AWp.draw mixed [(0, false), (1, false), (2, false), (3, false), (4, false), (5, false), (6, false), (7, false), (8, false), (9, false)] (by kernel_rfl) ?_
  simp (maxSteps := 1000000) [go_sem, l1, s1]
  refine fin _ ?_ ?_ <;> (rw [IntKind.wrap_u64]; omega)

theorem and_u64r {a b : Nat} (hb : b < 2 ^ 62) : IntKind.u64.wrap ((@BitVec.toNat 64 (@HAnd.hAnd (BitVec 64) (BitVec 64) (BitVec 64) (@instHAndOfAndOp (BitVec IntKind.u64.bits) (@BitVec.instAndOp IntKind.u64.bits)) (BitVec.ofNat 64 a) (BitVec.ofNat 64 b)) : Nat) : Int) = (((a % 2 ^ 64) &&& b : Nat) : Int) := by
  have e : (@BitVec.toNat 64 (@HAnd.hAnd (BitVec 64) (BitVec 64) (BitVec 64) (@instHAndOfAndOp (BitVec IntKind.u64.bits) (@BitVec.instAndOp IntKind.u64.bits)) (BitVec.ofNat 64 a) (BitVec.ofNat 64 b))) = (a % 2 ^ 64) &&& b := by
    show ((BitVec.ofNat 64 a) &&& (BitVec.ofNat 64 b)).toNat = _
    rw [BitVec.toNat_and, BitVec.toNat_ofNat, BitVec.toNat_ofNat, Nat.mod_eq_of_lt (show b < 2 ^ 64 by omega)]
  rw [e, IntKind.wrap_u64]
  have h1 : (a % 2 ^ 64) &&& b <= b := Nat.and_le_right
  omega

end Go.Proofs.YtfnegaedkomcgaaGreat
end

section
namespace Go.Proofs.YtfnegaedkomcgaaGreat
open Go.Ab

def u8s (xs : List Int) : List Value := xs.map (.int .u8 ·)
theorem u8s_len (xs : List Int) : (u8s xs).length = xs.length := by simp [u8s]
theorem u8s_get {xs : List Int} {k : Nat} (h : k < xs.length) : (u8s xs)[k]? = some (.int .u8 xs[k]) := by simp [u8s, h]
def BytesAt (H : Heap) (v : Value) (xs : List Int) : Prop := ∃ i o, v = lv 1 i o xs.length /\ At H i o (u8s xs) /\ xs.length <= 140737488355328 /\ ∀ x ∈ xs, 0 <= x /\ x < 256
theorem BytesAt.pre {H H' : Heap} (hp : H <+: H') {v : Value} {xs : List Int} (h : BytesAt H v xs) : BytesAt H' v xs := by
  obtain ⟨i, o, h1, h2, h3⟩ := h
  exact ⟨i, o, h1, h2.pre hp, h3⟩

def Src (L s : Nat) (H : Heap) : Prop := L <= s /\ ∃ (i o : Nat) (xs : List Int) (a z : Int), H[s]? = some ⟨[lv 1 i o xs.length, .int .i64 a, .int .u64 z], true, true⟩ /\ At H i o (u8s xs) /\ (xs ≠ [] -> i < L) /\
  xs.length <= 140737488355328 /\ (∀ x ∈ xs, 0 <= x /\ x < 256) /\ 0 <= a /\ a <= xs.length
theorem Src.lt {L s : Nat} {H : Heap} (h : Src L s H) : s < H.length := by
  obtain ⟨_, _, _, _, _, _, h, _⟩ := h
  exact (List.getElem?_eq_some_iff.1 h).1
theorem Src.keep {L s : Nat} {H H' : Heap} (h : Src L s H) {S : Nat -> Prop} (hs : Same S H H') (hS : ∀ j, S j -> L <= j /\ j ≠ s) : Src L s H' := by
  obtain ⟨hL, i, o, xs, a, z, h1, h2, h3, h4⟩ := h
  refine ⟨hL, i, o, xs, a, z, hs.get h1 (fun e => (hS s e).2 rfl), At.keepS hs h2 (fun hne e => ?_), h3, h4⟩
  have : xs ≠ [] := by intro e2; subst e2; exact hne rfl
  have := h3 this
  have := (hS i e).1
  omega
theorem Src.pre {L s : Nat} {H H' : Heap} (hp : H <+: H') (h : Src L s H) : Src L s H' := h.keep (S := fun _ => False) (Same.of_prefix hp) (fun _ e => e.elim)

theorem src_facts {H : Heap} {s : Nat} {u : Value} {a z : Int} (h : H[s]? = some ⟨[u, .int .i64 a, .int .u64 z], true, true⟩) :
    cellsAt H s 0 1 = some [u] /\ cellsAt H s 1 1 = some [.int .i64 a] /\ cellsAt H s 2 1 = some [.int .u64 z] /\
      (∀ v : Int, storeAt H s 2 [.int .u64 v] = some (H.set s ⟨[u, .int .i64 a, .int .u64 v], true, true⟩)) /\ (∀ v : Int, storeAt H s 1 [.int .i64 v] = some (H.set s ⟨[u, .int .i64 v, .int .u64 z], true, true⟩)) := by
  have hh : Holds H s [u, .int .i64 a, .int .u64 z] := ⟨true, h⟩
  refine ⟨hh.cell rfl, hh.cell rfl, hh.cell rfl, fun v => ?_, fun v => ?_⟩
  · rw [storeAt_of h rfl rfl (by simp) (by simp [Value.oneCell'])]; simp [over]
  · rw [storeAt_of h rfl rfl (by simp) (by simp [Value.oneCell'])]; simp [over]
theorem and24 (x : BitVec 64) : 0 <= IntKind.i64.wrap (IntKind.u64.wrap ((x &&& 16777215#64).toNat : Int)) /\ IntKind.i64.wrap (IntKind.u64.wrap ((x &&& 16777215#64).toNat : Int)) <= 16777215 := by
  have h : (x &&& 16777215#64).toNat <= 16777215 := by
    rw [BitVec.toNat_and]
    exact Nat.and_le_right
  rw [IntKind.wrap_u64, IntKind.wrap_i64]
  omega
theorem add24 {x b : Int} (hx : 0 <= x /\ x <= 16777215) (hb : 0 <= b /\ b < 256) : 0 <= IntKind.i64.wrap (x + b) := by
  rw [i64w (by omega) (by omega)]; omega
theorem rem_in {x n : Int} (h0 : 0 <= x) (h1 : ¬ n < 1) : 0 <= x.tmod n /\ (x.tmod n < n \/ x.tmod n = 0) :=
  ⟨Int.tmod_nonneg _ h0, .inl (Int.tmod_lt_of_pos _ (by omega))⟩

theorem next_ok {L s : Nat} {H : Heap} (hs : Src L s H) {n : Int} (Post : Value -> Heap -> Prop)
    (h : ∀ (H' : Heap) (r : Int), Same (fun j => j = s) H H' -> H'.length = H.length -> Src L s H' -> 0 <= r -> (r < n \/ r = 0) -> Post (.int .i64 r) H') :
    ACalls Tryz.prog 45 [.pointer (some ⟨s, 0, none⟩), .int .i64 n] H Post := by
  refine acalls_vc (rs := [.tmp 4]) Tryz.func45 rfl rfl Tryz.ntmps45 rfl rfl ?_
  by_cases h1 : n < 1
  · simp (maxSteps := 1000000) [go_sem, h1]
    exact h H 0 (Same.refl _ _) rfl hs (by omega) (.inr rfl)
  · obtain ⟨hL, i, o, xs, a, z, h2, h3, h4, h5, h6, h7, h8⟩ := hs
    have hlt := (List.getElem?_eq_some_iff.1 h2).1
    obtain ⟨c0, c1, c2, t2, t1⟩ := src_facts h2
    simp (maxSteps := 1000000) [go_sem, h1, c2, t2]
    generalize IntKind.u64.wrap (IntKind.u64.wrap (z * 6364136223846793005) + 1442695040888963407) = z1
    have g1 : (H.set s ⟨[lv 1 i o xs.length, .int .i64 a, .int .u64 z1], true, true⟩)[s]? = some ⟨[lv 1 i o xs.length, .int .i64 a, .int .u64 z1], true, true⟩ := List.getElem?_set_self hlt
    have hs1 : Same (fun j => j = s) H (H.set s ⟨[lv 1 i o xs.length, .int .i64 a, .int .u64 z1], true, true⟩) := same_set
    have hl1 : (H.set s ⟨[lv 1 i o xs.length, .int .i64 a, .int .u64 z1], true, true⟩).length = H.length := by simp
    generalize H.set s ⟨[lv 1 i o xs.length, .int .i64 a, .int .u64 z1], true, true⟩ = H1 at g1 hs1 hl1 ⊢
    have at1 : At H1 i o (u8s xs) := At.keepS hs1 h3 (fun hne e => by
      have : xs ≠ [] := by intro e2; subst e2; exact hne rfl
      have := h4 this
      omega)
    obtain ⟨d0, d1, d2, r2, r1⟩ := src_facts g1
    simp (maxSteps := 1000000) [go_sem, d2]
    refine AWp.draw mixed [(0, false), (1, false), (2, false), (3, false), (4, false), (5, false), (6, false), (7, false), (8, false), (9, false)] (by kernel_rfl) ?_
    simp (maxSteps := 1000000) [go_sem, d0, d1]
    by_cases ha : a < xs.length
    · have hk : a.toNat < xs.length := by omega
      have eb : cellsAt H1 i (o + a.toNat) 1 = some [.int .u8 xs[a.toNat]] := at1.cell (u8s_get hk)
      have hb := h6 xs[a.toNat] (List.getElem_mem hk)
      generalize xs[a.toNat] = b at *
      have wb : IntKind.i64.wrap b = b := i64w (by omega) (by omega)
      have wa : IntKind.i64.wrap (a + 1) = a + 1 := i64w (by omega) (by omega)
      have hat : (a.toNat : Int) = a := by omega
      simp (maxSteps := 1000000) [go_sem, ha]
      refine AWp.draw mixed [(0, false), (1, false), (2, false), (3, false), (4, false), (5, false), (6, false), (7, false), (8, false), (9, false), (10, false), (11, false), (12, false), (13, false)] (by kernel_rfl) ?_
      simp (maxSteps := 1000000) [go_sem, d0, d1, ha, h7, hk, eb, hat, wb, wa, r1]
      have g2 : (H1.set s ⟨[lv 1 i o xs.length, .int .i64 (a + 1), .int .u64 z1], true, true⟩)[s]? = some ⟨[lv 1 i o xs.length, .int .i64 (a + 1), .int .u64 z1], true, true⟩ := List.getElem?_set_self (by omega)
      have hs2 : Same (fun j => j = s) H1 (H1.set s ⟨[lv 1 i o xs.length, .int .i64 (a + 1), .int .u64 z1], true, true⟩) := same_set
      have at2 := At.keepS hs2 at1 (fun hne e => by
        have : xs ≠ [] := by intro e2; subst e2; exact hne rfl
        have := h4 this
        omega)
      refine andK_intro (by omega) (h _ _ (hs1.trans hs2) (by simp [hl1]) ⟨hL, i, o, xs, a + 1, z1, g2, at2, h4, h5, h6, by omega, by omega⟩ (rem_in (add24 (and24 _) hb) h1).1 (rem_in (add24 (and24 _) hb) h1).2)
    · simp (maxSteps := 1000000) [go_sem, ha]
      exact andK_intro (by omega) (h _ _ hs1 hl1 ⟨hL, i, o, xs, a, z1, g1, at1, h4, h5, h6, h7, h8⟩ (rem_in (and24 _).1 h1).1 (rem_in (and24 _).1 h1).2)

end Go.Proofs.YtfnegaedkomcgaaGreat
end

section
namespace Go.Proofs.YtfnegaedkomcgaaGreat
open Go.Ab

def TellsB (g : FuncId) (fs bs : List Value) (Q : Bk -> Prop) (P : Bk -> Bool) (H : Heap) : Prop :=
  ∀ (H' : Heap) (b : Bk) (Post : Value -> Heap -> Prop), H <+: H' -> Q b -> (∀ H'', H' <+: H'' -> Post (.bool (P b)) H'') -> ACalls Tryz.prog g (fs ++ b.val :: bs) H' Post

theorem triples_ok {H : Heap} {v : Nat} {g : FuncId} {fs bs : List Value} {P : Bk -> Bool} (hv : v <= 15) (hf : TellsB g fs bs (fun b => b ∈ triples v) P H) (Post : Value -> Heap -> Prop)
    (h : ∀ H' w, H <+: H' -> BlocksIn H.length H'.length H' w ((triples v).filter P) -> Post w H') :
    ACalls Tryz.prog 60 [.int .i64 v, .func (.func g) fs.toArray bs.toArray] H Post := by
  refine ACalls.res ?_
  refine acalls_vc (rs := [.tmp 4]) Tryz.func60 rfl rfl Tryz.ntmps60 rfl rfl ?_
  simp (maxSteps := 1000000) [go_sem]
  refine AWp.addGhost ?_
  have hb0 := Bl.ghost 3 H
  generalize H ++ [(⟨[], false, false⟩ : Blk)] = H0 at hb0 ⊢
  have hmem : ∀ {a b c : Nat}, a < b -> b < c -> c < v -> (⟨a, b, c⟩ : Bk) ∈ triples v := by
    intro a b c h1 h2 h3
    simp only [triples, trip0, trip1, trip2, List.mem_flatMap, List.mem_map, mem_upTo]
    exact ⟨a, by omega, b, by omega, c, by omega, rfl⟩
  have hle2 : ∀ a b k : Nat, (trip2 v a b k).length <= k := by intro a b k; rw [trip2, List.length_map, upTo_length]; omega
  have hle1 : ∀ a k : Nat, (trip1 v a k).length <= k * 15 := by
    intro a k
    induction k with
    | zero => simp [trip1, upTo_self]
    | succ k ih =>
      by_cases hak : a + 1 <= k
      · rw [trip1_succ hak, List.length_append]; have := hle2 a k v; omega
      · have : trip1 v a (k + 1) = [] := by unfold trip1; rw [upTo_self (by omega)]; rfl
        rw [this]; simp
  have hle0 : ∀ k : Nat, k <= 15 -> (trip0 v k).length <= k * 225 := by
    intro k hk
    induction k with
    | zero => simp [trip0, upTo_self]
    | succ k ih => rw [trip0_succ, List.length_append]; have := ih (by omega); have := hle1 k v; omega
  refine AWp.loopVc (St := Nat × Nat × List Bk) (fun s => [(0, .int .i64 v), (1, .func (.func g) fs.toArray bs.toArray), (5, lv 3 s.2.1 0 s.2.2.length), (9, .int .i64 v), (10, .int .i64 s.1)])
    (fun s H' => s.1 <= v /\ s.2.2 = (trip0 v s.1).filter P /\ Bl 3 H H' s.2.1 (tri s.2.2) s.2.2.length) (fun s => v - s.1) (0, H.length, []) ?_ ?_ ?_
  · simp [upF, Fr.get, Up.refl, Up.nil]
  · exact ⟨by simp, by simp [trip0_start], by simpa [tri] using hb0⟩
  · rintro K ⟨a, id, acc⟩ H' ⟨ha, hacc, hbl⟩ hK
    simp only at ha hacc hbl
    by_cases hlt : a < v
    · have hw_a : IntKind.i64.wrap ((a : Int) + 1) = (a : Int) + 1 := i64w (by omega) (by omega)
      simp (maxSteps := 1000000) [go_sem, hlt, hw_a]
      refine AWp.loopVc (St := Nat × Nat × List Bk) (fun s => [(0, .int .i64 v), (1, .func (.func g) fs.toArray bs.toArray), (5, lv 3 s.2.1 0 s.2.2.length), (6, .int .i64 a), (7, .int .i64 s.1), (9, .int .i64 v), (10, .int .i64 a)])
        (fun s H' => a + 1 <= s.1 /\ s.1 <= v /\ s.2.2 = (trip0 v a ++ trip1 v a s.1).filter P /\ Bl 3 H H' s.2.1 (tri s.2.2) s.2.2.length) (fun s => v - s.1) (a + 1, id, acc) ?_ ?_ ?_
      · simp [upF, Fr.get, Up.refl]
      · exact ⟨by simp, by simp only; omega, by simp [trip1_start, hacc], hbl⟩
      · rintro K2 ⟨b, id2, acc2⟩ H2 ⟨hab, hb, hacc2, hbl2⟩ hK2
        simp only at hab hb hacc2 hbl2
        by_cases hlt2 : b < v
        · have hw_b : IntKind.i64.wrap ((b : Int) + 1) = (b : Int) + 1 := i64w (by omega) (by omega)
          simp (maxSteps := 1000000) [go_sem, hlt2, hw_b]
          refine AWp.loopVc (St := Nat × Nat × List Bk) (fun s => [(0, .int .i64 v), (1, .func (.func g) fs.toArray bs.toArray), (5, lv 3 s.2.1 0 s.2.2.length), (6, .int .i64 a), (7, .int .i64 b), (8, .int .i64 s.1), (9, .int .i64 v), (10, .int .i64 a)])
            (fun s H' => b + 1 <= s.1 /\ s.1 <= v /\ s.2.2 = (trip0 v a ++ trip1 v a b ++ trip2 v a b s.1).filter P /\ Bl 3 H H' s.2.1 (tri s.2.2) s.2.2.length) (fun s => v - s.1) (b + 1, id2, acc2) ?_ ?_ ?_
          · simp [upF, Fr.get, Up.refl]
          · exact ⟨by simp, by simp only; omega, by simp [trip2_start, hacc2], hbl2⟩
          · rintro K3 ⟨c, id3, acc3⟩ H3 ⟨hbc, hc, hacc3, hbl3⟩ hK3
            simp only at hbc hc hacc3 hbl3
            by_cases hlt3 : c < v
            · have hw_c : IntKind.i64.wrap ((c : Int) + 1) = (c : Int) + 1 := i64w (by omega) (by omega)
              have hlen : acc3.length <= 10000 := by
                rw [hacc3]
                refine Nat.le_trans (List.length_filter_le _ _) ?_
                simp only [List.length_append]
                have := hle0 a (by omega); have := hle1 a b; have := hle2 a b c
                omega
              simp (maxSteps := 1000000) [go_sem, hlt3]
              refine hf H3 ⟨a, b, c⟩ _ hbl3.1 (hmem (by omega) (by omega) hlt3) ?_
              intro H4 hp4
              have hbl4 := hbl3.pre hp4
              have hsn : ∀ l : List Bk, (l ++ trip2 v a b (c + 1)).filter P = (l ++ trip2 v a b c).filter P ++ (if P ⟨a, b, c⟩ then [⟨a, b, c⟩] else []) := by
                intro l
                rw [trip2_succ hbc, <- List.append_assoc, List.filter_append (_ ++ _)]
                congr 1
                cases hP : P ⟨a, b, c⟩ <;> simp [hP]
              cases hP : P ⟨a, b, c⟩ with
              | false =>
                simp (maxSteps := 1000000) [go_sem, hw_c]
                exact hK3 (c + 1, id3, acc3) _ _ (by simp only; omega) (by simp [upF, Fr.get, Up.refl]) ⟨by simp only; omega, by simp only; omega, by simp only [hsn, hP, hacc3]; simp, hbl4⟩
              | true =>
                obtain ⟨hsrc, H5, hap, hbl5⟩ := hbl4.push (xs := (⟨a, b, c⟩ : Bk).cells) (by omega) rfl
                simp only [Bk.cells] at hsrc hap hbl5
                simp (maxSteps := 1000000) [go_sem, hw_c, hsrc, hap]
                refine andK_intro (by omega) (hK3 (c + 1, H4.length + 1, acc3 ++ [⟨a, b, c⟩]) _ _ (by simp only; omega) (by simp [upF, Fr.get, Up.refl]) ⟨by simp only; omega, by simp only; omega, by simp only [hsn, hP, hacc3]; simp, ?_⟩)
                simp only [List.length_append, List.length_singleton, tri_append, tri_one, Bk.cells]
                exact hbl5
            · have : c = v := by omega
              subst this
              simp (maxSteps := 1000000) [go_sem, hw_b]
              exact hK2 (b + 1, id3, acc3) _ _ (by simp only; omega) (by simp [upF, Fr.get, Up.refl]) ⟨by simp only; omega, by simp only; omega, by simp only [trip1_succ hab, <- List.append_assoc]; exact hacc3, hbl3⟩
        · have : b = v := by omega
          subst this
          simp (maxSteps := 1000000) [go_sem, hw_a]
          exact hK (a + 1, id2, acc2) _ _ (by simp only; omega) (by simp [upF, Fr.get, Up.refl]) ⟨by simp only; omega, by simp only [trip0_succ]; exact hacc2, hbl2⟩
    · have : a = v := by omega
      subst this
      simp (maxSteps := 1000000) [go_sem]
      have hlen : acc.length <= 10000 := by
        rw [hacc]
        refine Nat.le_trans (List.length_filter_le _ _) ?_
        have := hle0 a (by omega)
        omega
      refine ⟨_, Up.refl _ _, h H' _ hbl.1 ?_⟩
      have := OwnBlocks.inn (OwnBlocks.of_ol hbl.2.1 (by omega)) hbl.2.2
      rw [hacc] at this
      rw [hacc]
      exact this

theorem free_ok {H : Heap} {u : Value} {p : Int} {bs : List Bk} (hu : BlocksAt H u bs) (hS : IsSys p bs) (Post : Value -> Heap -> Prop)
    (h : ∀ H' w, H <+: H' -> BlocksIn H.length H'.length H' w ((triples p.toNat).filter (leftB bs)) -> Post w H') :
    ACalls Tryz.prog 77 [sysV p u] H Post := by
  refine acalls_vc (rs := [.tmp 2]) Tryz.func77 rfl rfl Tryz.ntmps77 rfl rfl ?_
  have hp := hS.1
  obtain ⟨n, rfl⟩ : ∃ n : Nat, p = n := ⟨p.toNat, by omega⟩
  simp (maxSteps := 1000000) [go_sem, sysV, hu.one]
  have hp0 : H <+: H ++ [⟨[.int .i64 n, u], true, true⟩] := List.prefix_append _ _
  have hx0 := Holds.last H [.int .i64 n, u]
  generalize H ++ [(⟨[.int .i64 n, u], true, true⟩ : Blk)] = H0 at hp0 hx0 ⊢
  obtain ⟨d0, d1, d2⟩ := hx0.sys
  refine AWp.draw mixed [(0, false), (1, false), (2, false), (3, true), (4, false), (5, false), (6, false)] (by kernel_rfl) ?_
  simp (maxSteps := 1000000) [go_sem, d1, d0]
  refine sysGrid_ok (hu.pre hp0) hS.good15 hS.2.2.2 _ ?_
  intro H1 id gs hp1 _ hga hgo
  simp (maxSteps := 1000000) [go_sem, hp1]
  refine triples_ok (fs := [.pointer (some ⟨id, 0, none⟩)]) (bs := []) (P := leftB bs) (by omega) ?_ _ ?_
  · intro H' b Post' hp' hb hP
    obtain ⟨hg, x, y, z, rfl, hxy, hyz, hz⟩ := mem_triples hb
    refine isLeft_ok (hga.keep hp') (by omega) (by omega) (by omega) _ ?_
    intro H'' hp''
    rw [gridOf_left hgo hxy hyz (by omega)]
    exact hP H'' hp''
  intro H2 w hp2 hw
  simp (maxSteps := 1000000) [go_sem]
  exact h H2 w (hp0.trans (hp1.trans hp2)) (hw.wider (hp0.trans hp1).length_le)

noncomputable def rFree (p : Int) (bs : List Bk) : List Bk × Int := if sysB p bs then ((triples p.toNat).filter (leftB bs), 0) else ([], 1)

theorem implFreeBlocks_ok {H : Heap} {u : Value} {p : Int} {bs : List Bk} (hu : BlocksAt H u bs) (hl : bs.length <= 1048576) (Post : Value -> Heap -> Prop)
    (h : ∀ H' w, H <+: H' -> BlocksIn H.length H'.length H' w (rFree p bs).1 -> Post (.tuple #[w, .int .i64 (rFree p bs).2]) H') :
    ACalls Tryz.prog 21 [sysV p u] H Post := by
  refine ACalls.res ?_
  refine acalls_vc (rs := [.tmp 2, .tmp 3]) Tryz.func21 rfl rfl Tryz.ntmps21 rfl rfl ?_
  simp (maxSteps := 1000000) [go_sem, sysV, hu.one]
  have hx0 := Holds.last H [.int .i64 p, u]
  refine implIsSys (hu.pre (List.prefix_append _ _)) _ ?_
  intro H1 hp1
  obtain ⟨d0, d1, d2⟩ := (hx0.pre hp1).sys
  cases hs : sysB p bs with
  | false =>
    simp (maxSteps := 1000000) [go_sem]
    refine ⟨_, Up.tuple (ys := #[lv 3 0 0 0, .int .i64 1]) ⟨Up.nil _ _ _ _, Up.refl _ _, trivial⟩, ?_⟩
    have hr : rFree p bs = ([], 1) := by simp [rFree, hs]
    have := h H1 (lv 3 0 0 0) (pre_box hp1) (by rw [hr]; exact BlocksIn.nil _ _ _)
    rwa [hr] at this
  | true =>
    simp (maxSteps := 1000000) [go_sem, d0]
    refine free_ok (hu.pre (pre_box hp1)) (sysB_of hs) _ ?_
    intro H2 w hp2 hw
    simp (maxSteps := 1000000) [go_sem]
    have hr : rFree p bs = ((triples p.toNat).filter (leftB bs), 0) := by simp [rFree, hs]
    have := h H2 w ((pre_box hp1).trans hp2) (by rw [hr]; exact hw.wider (pre_box hp1).length_le)
    rw [hr] at this
    exact ⟨_, Up.refl _ _, this⟩

theorem l01Free_ok {H : Heap} {u : Value} {p w : Int} {bs : List Bk} {b : Bk} (hu : BlocksAt H u bs) (hg : ∀ x ∈ bs, good 15 x = true) (hb : good w b = true) (Post : Value -> Heap -> Prop) (h : ∀ H', H <+: H' -> Post (.bool (leftB bs b)) H') :
    ACalls Tryz.prog 74 [sysV p u, b.val] H Post := by
  obtain ⟨i, o, rfl, h1, h2⟩ := hu
  refine acalls_vc (rs := [.tmp 4]) Tryz.func74 rfl rfl Tryz.ntmps74 rfl rfl ?_
  simp (maxSteps := 1000000) [go_sem, sysV, Bk.val]
  have hp0 : H <+: H ++ [⟨[.int .i64 p, lv 3 i o bs.length], true, true⟩, ⟨[.int .i64 b.a, .int .i64 b.b, .int .i64 b.c], true, true⟩] := List.prefix_append _ _
  have hx0 : Holds (H ++ [⟨[.int .i64 p, lv 3 i o bs.length], true, true⟩, ⟨[.int .i64 b.a, .int .i64 b.b, .int .i64 b.c], true, true⟩]) H.length [.int .i64 p, lv 3 i o bs.length] := ⟨true, by simp⟩
  have hx1 : Holds (H ++ [⟨[.int .i64 p, lv 3 i o bs.length], true, true⟩, ⟨[.int .i64 b.a, .int .i64 b.b, .int .i64 b.c], true, true⟩]) (H.length + 1) [.int .i64 b.a, .int .i64 b.b, .int .i64 b.c] := ⟨true, by simp⟩
  generalize H ++ [(⟨[.int .i64 p, lv 3 i o bs.length], true, true⟩ : Blk), ⟨[.int .i64 b.a, .int .i64 b.b, .int .i64 b.c], true, true⟩] = H0 at hp0 hx0 hx1 ⊢
  have hiff := leftB_iff hg hb
  refine AWp.loopVc (fun s : Nat => [(2, .pointer (some ⟨H.length, 0, none⟩)), (3, .pointer (some ⟨H.length + 1, 0, none⟩)), (5, .int .i64 s)])
    (fun s H' => s <= bs.length /\ H0 <+: H' /\ ∀ x ∈ bs.take s, common x b <= 1) (fun s => bs.length - s) 0 ?_ ?_ ?_
  · simp [upF, Fr.get, Up.refl]
  · exact ⟨by omega, List.prefix_refl _, by simp⟩
  · rintro K s H' ⟨hs, hp, hf⟩ hK
    obtain ⟨d0, d1, d2⟩ := (hx0.pre hp).sys
    obtain ⟨e0, e1, e2, e3⟩ := (hx1.pre hp).bk
    by_cases hlt : s < bs.length
    · have hbs : bs[s]? = some bs[s] := List.getElem?_eq_getElem hlt
      have c1 := (h1.pre (hp0.trans hp)).bk hbs
      simp only [Bk.cells] at c1
      have hw_s : IntKind.i64.wrap ((s : Int) + 1) = (s : Int) + 1 := i64w (by omega) (by omega)
      simp (maxSteps := 1000000) [go_sem, hlt, d2]
      refine AWp.draw mixed [(0, false), (1, false), (2, false), (3, false), (4, false), (5, false), (6, false), (7, false)] (by kernel_rfl) ?_
      simp (maxSteps := 1000000) [go_sem, hlt, d2, c1, e0]
      refine l01Common_ok (b := bs[s]) (d := b) _ ?_
      intro H2 hp2
      by_cases hc : common bs[s] b <= 1
      · have hc' : ¬ ((1 : Int) < (common bs[s] b : Int)) := by omega
        simp (maxSteps := 1000000) [go_sem, hc', hw_s]
        refine hK (s + 1) _ _ (by omega) (by simp [upF, Fr.get, Up.refl]) ⟨by omega, hp.trans hp2, ?_⟩
        intro x hx
        rw [List.take_succ_eq_append_getElem hlt, List.mem_append] at hx
        rcases hx with hx | hx
        · exact hf x hx
        · simp at hx; subst hx; exact hc
      · have hc' : (1 : Int) < (common bs[s] b : Int) := by omega
        simp (maxSteps := 1000000) [go_sem, hc']
        have : leftB bs b = false := by
          cases hl : leftB bs b with
          | false => rfl
          | true => exact absurd (hiff.1 hl _ (List.getElem_mem hlt)) hc
        simpa [this] using h H2 (hp0.trans (hp.trans hp2))
    · have : s = bs.length := by omega
      subst this
      rw [List.take_length] at hf
      simp (maxSteps := 1000000) [go_sem, d2]
      have : leftB bs b = true := hiff.2 hf
      simpa [this] using h H' (hp0.trans hp)

end Go.Proofs.YtfnegaedkomcgaaGreat
end

section
namespace Go.Proofs.YtfnegaedkomcgaaGreat
open Go.Ab

theorem trip2_len (v a b k : Nat) : (trip2 v a b k).length <= k := by rw [trip2, List.length_map, upTo_length]; omega
theorem trip1_len {v : Nat} (hv : v <= 15) (a k : Nat) : (trip1 v a k).length <= k * 15 := by
  induction k with
  | zero => simp [trip1, upTo_self]
  | succ k ih =>
    by_cases hak : a + 1 <= k
    · rw [trip1_succ hak, List.length_append]; have := trip2_len v a k v; omega
    · have : trip1 v a (k + 1) = [] := by unfold trip1; rw [upTo_self (by omega)]; rfl
      rw [this]; simp
theorem trip0_len {v : Nat} (hv : v <= 15) (k : Nat) : (trip0 v k).length <= k * 225 := by
  induction k with
  | zero => simp [trip0, upTo_self]
  | succ k ih => rw [trip0_succ, List.length_append]; have := trip1_len hv k v; omega
theorem trip_snoc {v a b c : Nat} (h : b + 1 <= c) (P : Bk -> Bool) (l : List Bk) : (l ++ trip2 v a b (c + 1)).filter P = (l ++ trip2 v a b c).filter P ++ (if P ⟨a, b, c⟩ then [⟨a, b, c⟩] else []) := by
  rw [trip2_succ h, <- List.append_assoc, List.filter_append (_ ++ _)]
  congr 1
  cases hP : P ⟨a, b, c⟩ <;> simp [hP]

theorem l01RestG_ok {H : Heap} {u : Value} {p : Int} {bs : List Bk} (hu : BlocksAt H u bs) (hp : 0 <= p /\ p <= 15) (hg15 : ∀ x ∈ bs, good 15 x = true) (Post : Value -> Heap -> Prop)
    (h : ∀ H' w, H <+: H' -> BlocksIn H.length H'.length H' w ((triples p.toNat).filter (leftB bs)) -> Post w H') :
    ACalls Tryz.prog 68 [sysV p u] H Post := by
  obtain ⟨v, rfl⟩ : ∃ n : Nat, p = n := ⟨p.toNat, by omega⟩
  have hv : v <= 15 := by omega
  refine ACalls.res ?_
  refine acalls_vc (rs := [.tmp 2]) Tryz.func68 rfl rfl Tryz.ntmps68 rfl rfl ?_
  simp (maxSteps := 1000000) [go_sem, sysV, hu.one]
  have hp0 : H <+: H ++ [⟨[.int .i64 v, u], true, true⟩] := List.prefix_append _ _
  have hx0 := Holds.last H [.int .i64 v, u]
  have hb0 := Bl.nil 3 (H ++ [⟨[.int .i64 v, u], true, true⟩])
  simp only [List.length_append, List.length_singleton, List.append_assoc, List.singleton_append] at hb0
  have hlen0 : (H ++ [(⟨[.int .i64 v, u], true, true⟩ : Blk)]).length = H.length + 1 := by simp
  generalize H ++ [(⟨[.int .i64 v, u], true, true⟩ : Blk)] = H0 at hp0 hx0 hb0 hlen0
  refine AWp.loopVc (St := Nat × Nat × List Bk) (fun s => [(1, .pointer (some ⟨H.length, 0, none⟩)), (3, lv 3 s.2.1 0 s.2.2.length), (4, .int .i64 s.1)])
    (fun s H' => s.1 <= v /\ s.2.2 = (trip0 v s.1).filter (leftB bs) /\ Bl 3 H0 H' s.2.1 (tri s.2.2) s.2.2.length) (fun s => v - s.1) (0, H.length + 1, []) ?_ ?_ ?_
  · simp [upF, Fr.get, Up.refl, Up.ex0]
  · exact ⟨by simp, by simp [trip0_start], by simpa [tri] using hb0⟩
  · rintro K ⟨a, id, acc⟩ H' ⟨ha, hacc, hbl⟩ hK
    simp only at ha hacc hbl
    obtain ⟨d0, d1, d2⟩ := (hx0.pre hbl.1).sys
    by_cases hlt : a < v
    · have hw_a : IntKind.i64.wrap ((a : Int) + 1) = (a : Int) + 1 := i64w (by omega) (by omega)
      simp (maxSteps := 1000000) [go_sem, hlt, hw_a, d1]
      refine AWp.loopVc (St := Nat × Nat × List Bk) (fun s => [(1, .pointer (some ⟨H.length, 0, none⟩)), (3, lv 3 s.2.1 0 s.2.2.length), (4, .int .i64 a), (5, .int .i64 s.1)])
        (fun s H' => a + 1 <= s.1 /\ s.1 <= v /\ s.2.2 = (trip0 v a ++ trip1 v a s.1).filter (leftB bs) /\ Bl 3 H0 H' s.2.1 (tri s.2.2) s.2.2.length) (fun s => v - s.1) (a + 1, id, acc) ?_ ?_ ?_
      · simp [upF, Fr.get, Up.refl]
      · exact ⟨by simp, by simp only; omega, by simp [trip1_start, hacc], hbl⟩
      · rintro K2 ⟨b, id2, acc2⟩ H2 ⟨hab, hb, hacc2, hbl2⟩ hK2
        simp only at hab hb hacc2 hbl2
        obtain ⟨d0, d1, d2⟩ := (hx0.pre hbl2.1).sys
        by_cases hlt2 : b < v
        · have hw_b : IntKind.i64.wrap ((b : Int) + 1) = (b : Int) + 1 := i64w (by omega) (by omega)
          simp (maxSteps := 1000000) [go_sem, hlt2, hw_b, d1]
          refine AWp.loopVc (St := Nat × Nat × List Bk) (fun s => [(1, .pointer (some ⟨H.length, 0, none⟩)), (3, lv 3 s.2.1 0 s.2.2.length), (4, .int .i64 a), (5, .int .i64 b), (6, .int .i64 s.1)])
            (fun s H' => b + 1 <= s.1 /\ s.1 <= v /\ s.2.2 = (trip0 v a ++ trip1 v a b ++ trip2 v a b s.1).filter (leftB bs) /\ Bl 3 H0 H' s.2.1 (tri s.2.2) s.2.2.length) (fun s => v - s.1) (b + 1, id2, acc2) ?_ ?_ ?_
          · simp [upF, Fr.get, Up.refl]
          · exact ⟨by simp, by simp only; omega, by simp [trip2_start, hacc2], hbl2⟩
          · rintro K3 ⟨c, id3, acc3⟩ H3 ⟨hbc, hc, hacc3, hbl3⟩ hK3
            simp only at hbc hc hacc3 hbl3
            obtain ⟨d0, d1, d2⟩ := (hx0.pre hbl3.1).sys
            by_cases hlt3 : c < v
            · have hw_c : IntKind.i64.wrap ((c : Int) + 1) = (c : Int) + 1 := i64w (by omega) (by omega)
              have hlen : acc3.length <= 10000 := by
                rw [hacc3]
                refine Nat.le_trans (List.length_filter_le _ _) ?_
                simp only [List.length_append]
                have := trip0_len hv a; have := trip1_len hv a b; have := trip2_len v a b c
                omega
              simp (maxSteps := 1000000) [go_sem, hlt3, d1, d0]
              refine l01Free_ok (b := ⟨a, b, c⟩) (hu.pre (hp0.trans hbl3.1)) hg15 (w := v) (by rw [good_iff]; simp only; omega) _ ?_
              intro H4 hp4
              have hbl4 := hbl3.pre hp4
              have hsn := trip_snoc (v := v) (a := a) hbc (leftB bs) (trip0 v a ++ trip1 v a b)
              cases hP : leftB bs ⟨a, b, c⟩ with
              | false =>
                simp (maxSteps := 1000000) [go_sem, hw_c]
                exact hK3 (c + 1, id3, acc3) _ _ (by simp only; omega) (by simp [upF, Fr.get, Up.refl]) ⟨by simp only; omega, by simp only; omega, by simp only [hsn, hP, hacc3]; simp, hbl4⟩
              | true =>
                obtain ⟨hsrc, H5, hap, hbl5⟩ := hbl4.push (xs := (⟨a, b, c⟩ : Bk).cells) (by omega) rfl
                simp only [Bk.cells] at hsrc hap hbl5
                simp (maxSteps := 1000000) [go_sem, hw_c, hsrc, hap]
                refine andK_intro (by omega) (hK3 (c + 1, H4.length + 1, acc3 ++ [⟨a, b, c⟩]) _ _ (by simp only; omega) (by simp [upF, Fr.get, Up.refl]) ⟨by simp only; omega, by simp only; omega, by simp only [hsn, hP, hacc3]; simp, ?_⟩)
                simp only [List.length_append, List.length_singleton, tri_append, tri_one, Bk.cells]
                exact hbl5
            · have : c = v := by omega
              subst this
              simp (maxSteps := 1000000) [go_sem, hw_b, d1]
              exact hK2 (b + 1, id3, acc3) _ _ (by simp only; omega) (by simp [upF, Fr.get, Up.refl]) ⟨by simp only; omega, by simp only; omega, by simp only [trip1_succ hab, <- List.append_assoc]; exact hacc3, hbl3⟩
        · have : b = v := by omega
          subst this
          simp (maxSteps := 1000000) [go_sem, hw_a, d1]
          exact hK (a + 1, id2, acc2) _ _ (by simp only; omega) (by simp [upF, Fr.get, Up.refl]) ⟨by simp only; omega, by simp only [trip0_succ]; exact hacc2, hbl2⟩
    · have : a = v := by omega
      subst this
      simp (maxSteps := 1000000) [go_sem, d1]
      have hlen : acc.length <= 10000 := by
        rw [hacc]
        refine Nat.le_trans (List.length_filter_le _ _) ?_
        have := trip0_len hv a
        omega
      refine ⟨_, Up.refl _ _, h H' _ (hp0.trans hbl.1) ?_⟩
      have := (OwnBlocks.inn (OwnBlocks.of_ol hbl.2.1 (by omega)) hbl.2.2).wider (c := H.length) (by omega)
      rw [hacc] at this
      rw [hacc]
      exact this

theorem l01Rest_ok {H : Heap} {u : Value} {p : Int} {bs : List Bk} (hu : BlocksAt H u bs) (hS : IsSys p bs) (Post : Value -> Heap -> Prop)
    (h : ∀ H' w, H <+: H' -> BlocksIn H.length H'.length H' w ((triples p.toNat).filter (leftB bs)) -> Post w H') :
    ACalls Tryz.prog 68 [sysV p u] H Post := l01RestG_ok hu ⟨by have := hS.1; omega, by have := hS.1; omega⟩ hS.good15 Post h

theorem specFreeBlocks_ok {H : Heap} {u : Value} {p : Int} {bs : List Bk} (hu : BlocksAt H u bs) (hl : bs.length <= 1048576) (Post : Value -> Heap -> Prop)
    (h : ∀ H' w, H <+: H' -> BlocksIn H.length H'.length H' w (rFree p bs).1 -> Post (.tuple #[w, .int .i64 (rFree p bs).2]) H') :
    ACalls Tryz.prog 35 [sysV p u] H Post := by
  refine ACalls.res ?_
  refine acalls_vc (rs := [.tmp 2, .tmp 3]) Tryz.func35 rfl rfl Tryz.ntmps35 rfl rfl ?_
  simp (maxSteps := 1000000) [go_sem, sysV, hu.one]
  have hx0 := Holds.last H [.int .i64 p, u]
  refine l01Is' (hu.pre (List.prefix_append _ _)) hl _ ?_
  intro H1 hp1
  obtain ⟨d0, d1, d2⟩ := (hx0.pre hp1).sys
  cases hs : sysB p bs with
  | false =>
    simp (maxSteps := 1000000) [go_sem]
    refine ⟨_, Up.tuple (ys := #[lv 3 0 0 0, .int .i64 1]) ⟨Up.nil _ _ _ _, Up.refl _ _, trivial⟩, ?_⟩
    have hr : rFree p bs = ([], 1) := by simp [rFree, hs]
    have := h H1 (lv 3 0 0 0) (pre_box hp1) (by rw [hr]; exact BlocksIn.nil _ _ _)
    rwa [hr] at this
  | true =>
    simp (maxSteps := 1000000) [go_sem, d0]
    refine l01Rest_ok (hu.pre (pre_box hp1)) (sysB_of hs) _ ?_
    intro H2 w hp2 hw
    simp (maxSteps := 1000000) [go_sem]
    have hr : rFree p bs = ((triples p.toNat).filter (leftB bs), 0) := by simp [rFree, hs]
    have := h H2 w ((pre_box hp1).trans hp2) (by rw [hr]; exact hw.wider (pre_box hp1).length_le)
    rw [hr] at this
    exact ⟨_, Up.refl _ _, this⟩

end Go.Proofs.YtfnegaedkomcgaaGreat
end

section
namespace Go.Ab
open Go.RowKit (Below)

def blkOf : Value -> Option Nat
  | .pointer (some ⟨i, _, _⟩) => some i
  | .slice (some ⟨i, _, _⟩) _ _ => some i
  | _ => none
def rdBlk (o : Op) (fr : Fr) : Option Nat :=
  match o with
  | .load _ x => (ev fr x).bind blkOf
  | .convert _ _ x => (ev fr x).bind blkOf
  | .slice _ x _ _ _ => (ev fr x).bind blkOf
  | _ => none
theorem rdBlk_none {o : Op} {fr : Fr} (h : readsH o = false) : rdBlk o fr = none := by
  cases o <;> first | rfl | simp [readsH] at h
theorem rdBlk_congr {o : Op} {fr fr' : Fr} (h : ∀ x, ev fr x = ev fr' x) : rdBlk o fr = rdBlk o fr' := by
  cases o <;> simp [rdBlk, h]
theorem rdBlk_agree {o : Op} {fr fr' : Fr} (h : agree o fr fr') : rdBlk o fr' = rdBlk o fr := by
  cases o <;> first | rfl | skip
  case load t x => simp only [rdBlk]; rw [h x (by simp [Op.operands])]
  case convert s t x => simp only [rdBlk]; rw [h x (by simp [Op.operands])]
  case slice t x lo hi mx => simp only [rdBlk]; rw [h x (by simp [Op.operands])]

def offL (L : Nat) (o : Op) (fr : Fr) : Prop := ∀ i, rdBlk o fr = some i -> i < L
theorem offL_congr {L : Nat} {o : Op} {fr fr' : Fr} (h : ∀ x, ev fr' x = ev fr x) (hoff : offL L o fr) : offL L o fr' := fun i hi => hoff i (by rw [<- hi]; exact rdBlk_congr fun x => (h x).symm)
theorem offL_agree {L : Nat} {o : Op} {fr fr' : Fr} (h : agree o fr fr') (hoff : offL L o fr) : offL L o fr' := fun i hi => hoff i (by rw [<- hi]; exact (rdBlk_agree h).symm)
def KeepL (L : Nat) (H h : Heap) : Prop := ∀ i, i < L -> h[i]? = H[i]?

theorem cellsAt_at {H H' : Heap} {i o n : Nat} {cs : List Value} (h : ∀ b : Blk, H[i]? = some b -> H'[i]? = some b) (hc : cellsAt H i o n = some cs) : cellsAt H' i o n = some cs := by
  obtain ⟨b, hb, hl, hn, rfl⟩ := cellsAt_inv hc
  exact cellsAt_of (h b hb) hl hn
theorem srcCells_at {H H' : Heap} {e : Nat} {v : Value} {cs : List Value} (h : ∀ i, blkOf v = some i -> ∀ b : Blk, H[i]? = some b -> H'[i]? = some b) (hc : srcCells H e v = some cs) : srcCells H' e v = some cs := by
  unfold srcCells at hc ⊢
  split at hc
  · exact hc
  · split at hc
    · rename_i hn; rw [if_pos hn]; exact hc
    · rename_i hn; rw [if_neg hn]; exact cellsAt_at (h _ rfl) hc
  · cases hc
theorem sliceV_at {H H' : Heap} {e : Nat} {v v' : Value} {lo hi : Nat} (h : ∀ i, blkOf v = some i -> ∀ b : Blk, H[i]? = some b -> H'[i]? = some b) (hc : sliceV H e v lo hi = some v') : sliceV H' e v lo hi = some v' := by
  unfold sliceV at hc ⊢
  split at hc
  · exact hc
  · exact hc
  · split at hc
    · rename_i hc1; rw [if_pos hc1]; exact hc
    · rename_i hc1
      rw [if_neg hc1]
      split at hc
      · rename_i hc2
        obtain ⟨cs, hcs⟩ := Option.isSome_iff_exists.1 hc2.2.2.2
        rw [if_pos ⟨hc2.1, hc2.2.1, hc2.2.2.1, by rw [cellsAt_at (h _ rfl) hcs]; rfl⟩]; exact hc
      · cases hc
  · cases hc

section
variable {P : Program} {N : Nat} {o : Oper} {fr fr' : Fr} {H : Heap} {K : Fr -> Heap -> Prop}

theorem vop_RX (hR : isR o.op = true) (h : vop P N o fr H K) :
    ∃ v, dstB N o.dst = true /\ K (fr.put o.dst v) H /\ ∀ (fr' : Fr) (H' : Heap) (K' : Fr -> Heap -> Prop), agree o.op fr fr' -> (∀ i, rdBlk o.op fr = some i -> ∀ b : Blk, H[i]? = some b -> H'[i]? = some b) -> K' (fr'.put o.dst v) H' -> vop P N o fr' H' K' := by
  unfold vop at h
  unfold vop agree
  split at h
  case h_1 x ho => obtain ⟨v, h1, h2, h3⟩ := h; rw [ho]; exact ⟨v, h2, h3, fun fr' H' K' ha _ hk => ⟨v, agree1 ha (by simp [Op.operands]) h1, h2, hk⟩⟩
  case h_2 x ho => obtain ⟨v, h1, h2, h3⟩ := h; rw [ho]; exact ⟨v, h2, h3, fun fr' H' K' ha _ hk => ⟨v, agree1 ha (by simp [Op.operands]) h1, h2, hk⟩⟩
  case h_3 c x y ho =>
    obtain ⟨v, h1, h⟩ := h
    unfold pickC at h
    split at h
    · rename_i b
      obtain ⟨v, h2, h3, h4⟩ := h
      rw [ho]
      refine ⟨v, h3, h4, fun fr' H' K' ha _ hk => ⟨.bool b, agree1 ha (by simp [Op.operands]) h1, v, ?_, h3, hk⟩⟩
      cases b
      · rw [show (bif false then x else y) = y from rfl, ha y (by simp [Op.operands])]; exact h2
      · rw [show (bif true then x else y) = x from rfl, ha x (by simp [Op.operands])]; exact h2
    · exact h.elim
  case h_4 t ho => simp [ho, isR] at hR
  case h_5 t x ho => simp [ho, isR] at hR
  case h_6 t x ho =>
    obtain ⟨p, h1, h⟩ := h
    unfold loadC at h
    split at h
    · obtain ⟨τ, h2, cs, h3, v, h4, h5, h6⟩ := h
      rw [ho]
      exact ⟨v, h5, h6, fun fr' H' K' ha hh hk => ⟨_, agree1 ha (by simp [Op.operands]) h1, τ, h2, cs, cellsAt_at (hh _ (by simp [rdBlk, h1, blkOf])) h3, v, h4, h5, hk⟩⟩
    · exact h.elim
  case h_7 t x y ho => simp [ho, isR] at hR
  case h_8 x ho =>
    obtain ⟨p, h1, h⟩ := h
    unfold nilC at h
    rw [ho]
    split at h
    · obtain ⟨h2, h3⟩ := h; exact ⟨_, h2, h3, fun fr' H' K' ha _ hk => ⟨_, agree1 ha (by simp [Op.operands]) h1, h2, hk⟩⟩
    · obtain ⟨h2, h3⟩ := h; exact ⟨_, h2, h3, fun fr' H' K' ha _ hk => ⟨_, agree1 ha (by simp [Op.operands]) h1, h2, hk⟩⟩
    · exact h.elim
  case h_9 op ty x y ty' ho =>
    obtain ⟨vx, h1, vy, h2, h⟩ := h
    unfold binC2 at h
    rw [ho]
    split at h
    · split at h
      · obtain ⟨d, h3, h⟩ := h
        unfold eqNilC at h
        split at h
        · split at h
          · obtain ⟨hz, h4, h5⟩ := h; exact ⟨_, h4, h5, fun fr' H' K' ha _ hk => ⟨_, agree1 ha (by simp [Op.operands]) h1, _, agree1 ha (by simp [Op.operands]) h2, _, h3, hz, h4, hk⟩⟩
          · obtain ⟨hz, h4, h5⟩ := h; exact ⟨_, h4, h5, fun fr' H' K' ha _ hk => ⟨_, agree1 ha (by simp [Op.operands]) h1, _, agree1 ha (by simp [Op.operands]) h2, _, h3, hz, h4, hk⟩⟩
          · exact h.elim
        · exact h.elim
      · exact h.elim
    · rename_i hne
      obtain ⟨v, ⟨h3, h4⟩, h5⟩ := vbin_det h
      refine ⟨v, h3, h4, fun fr' H' K' ha _ hk => ⟨_, agree1 ha (by simp [Op.operands]) h1, _, agree1 ha (by simp [Op.operands]) h2, ?_⟩⟩
      unfold binC2
      split
      · exact absurd rfl hne
      · exact h5 _ ⟨h3, hk⟩
  case h_10 op ty x ho =>
    obtain ⟨v, h1, h⟩ := h
    unfold unC at h
    rw [ho]
    split at h
    · obtain ⟨h2, h3⟩ := h; exact ⟨_, h2, h3, fun fr' H' K' ha _ hk => ⟨_, agree1 ha (by simp [Op.operands]) h1, h2, hk⟩⟩
    · obtain ⟨h2, h3⟩ := h; exact ⟨_, h2, h3, fun fr' H' K' ha _ hk => ⟨_, agree1 ha (by simp [Op.operands]) h1, h2, hk⟩⟩
    · exact h.elim
  case h_11 s t x ho =>
    obtain ⟨v, h1, h⟩ := h
    unfold convC at h
    rw [ho]
    split at h
    · obtain ⟨d, h2, d', h3, h⟩ := h
      unfold cvI2 at h
      split at h
      · obtain ⟨h4, h5⟩ := h; exact ⟨_, h4, h5, fun fr' H' K' ha _ hk => ⟨_, agree1 ha (by simp [Op.operands]) h1, _, h2, _, h3, h4, hk⟩⟩
      · exact h.elim
    · rename_i hne
      obtain ⟨d, h2, h⟩ := h
      unfold cvS at h
      split at h
      · obtain ⟨⟨h3, h4⟩, cs, h5, bs, h6, h7, h8⟩ := h
        refine ⟨_, h7, h8, fun fr' H' K' ha hh hk => ⟨_, agree1 ha (by simp [Op.operands]) h1, ?_⟩⟩
        unfold convC
        split
        · exact absurd rfl (hne _ _)
        · exact ⟨_, h2, ⟨h3, h4⟩, cs, srcCells_at (fun i hi => hh i (by simp [rdBlk, h1, hi])) h5, bs, h6, h7, hk⟩
      · exact h.elim
  case h_12 fn first captured ho =>
    rw [ho]
    split at h
    · obtain ⟨vs, h1, us, h2, h3, h4⟩ := h
      exact ⟨_, h3, h4, fun fr' H' K' ha _ hk => ⟨vs, by rw [evs_congr (fun x hx => ha x (by simp [Op.operands] at hx ⊢; exact .inl hx))]; exact h1, us, by rw [evs_congr (fun x hx => ha x (by simp [Op.operands] at hx ⊢; exact .inr hx))]; exact h2, h3, hk⟩⟩
    · exact h.elim
  case h_13 t x y ho => simp [ho, isR] at hR
  case h_14 t x lo hi mx ho =>
    rw [ho]
    split at h
    · obtain ⟨v, h1, d, h2, h⟩ := h
      unfold slC1 at h
      have hx : ∀ fr', (∀ y ∈ (Op.slice t x lo hi none).operands, ev fr' y = ev fr y) -> ev fr' x = some v := fun fr' ha => agree1 ha (by simp [Op.operands]) h1
      split at h
      · split at h
        · obtain ⟨⟨rfl, rfl, h3⟩, τ, h4, h5, h6⟩ := h
          exact ⟨_, h5, h6, fun fr' H' K' ha _ hk => ⟨_, hx fr' ha, _, h2, ⟨rfl, rfl, h3⟩, τ, h4, h5, hk⟩⟩
        · exact h.elim
      · obtain ⟨τ, h3, l, h4, hh, h5, h6, v', h8, h9, h10⟩ := h
        refine ⟨_, h9, h10, fun fr' H' K' ha hp hk => ⟨_, hx fr' ha, _, h2, τ, h3, l, ?_, hh, ?_, h6, v', sliceV_at (fun i hi => hp i (by simp [rdBlk, h1, hi])) h8, h9, hk⟩⟩
        · rw [boundV_congr (fr := fr) (fun y hy => ha y (by cases lo <;> simp at hy; subst hy; simp [Op.operands]))]; exact h4
        · rw [boundV_congr (fr := fr) (fun y hy => ha y (by cases hi <;> simp at hy; subst hy; simp [Op.operands]))]; exact h5
      · exact h.elim
    · exact h.elim
  case h_15 s x k ho =>
    obtain ⟨d, h1, h⟩ := h
    unfold faC at h
    rw [ho]
    split at h
    · obtain ⟨f, h2, p, h3, h⟩ := h
      unfold faC3 at h
      split at h
      · obtain ⟨τ, h4, h5, h6, h7⟩ := h
        exact ⟨_, h6, h7, fun fr' H' K' ha _ hk => ⟨_, h1, f, h2, _, agree1 ha (by simp [Op.operands]) h3, τ, h4, h5, h6, hk⟩⟩
      · exact h.elim
    · exact h.elim
  case h_16 s x k ho =>
    obtain ⟨d, h1, h⟩ := h
    unfold fiC at h
    rw [ho]
    split at h
    · obtain ⟨f, h2, p, h3, h⟩ := h
      unfold fiC3 at h
      split at h
      · obtain ⟨v, h4, h6, h7⟩ := h
        exact ⟨_, h6, h7, fun fr' H' K' ha _ hk => ⟨_, h1, f, h2, _, agree1 ha (by simp [Op.operands]) h3, v, h4, h6, hk⟩⟩
      · exact h.elim
    · exact h.elim
  case h_17 t x y ho =>
    obtain ⟨vy, h1, h⟩ := h
    unfold iaC at h
    rw [ho]
    split at h
    · obtain ⟨v, h2, d, h3, h⟩ := h
      unfold iaC3 at h
      have hx : ∀ fr', (∀ z ∈ (Op.indexAddr t x y).operands, ev fr' z = ev fr z) -> ev fr' x = some v := fun fr' ha => by rw [ha x (by simp [Op.operands])]; exact h2
      have hy : ∀ fr', (∀ z ∈ (Op.indexAddr t x y).operands, ev fr' z = ev fr z) -> ev fr' y = some _ := fun fr' ha => by rw [ha y (by simp [Op.operands])]; exact h1
      split at h
      · split at h
        · obtain ⟨h4, τ, h6, h7, h8⟩ := h; exact ⟨_, h7, h8, fun fr' H' K' ha _ hk => ⟨_, hy fr' ha, _, hx fr' ha, _, h3, h4, τ, h6, h7, hk⟩⟩
        · exact h.elim
      · split at h
        · obtain ⟨h4, τ, h6, h7, h8⟩ := h; exact ⟨_, h7, h8, fun fr' H' K' ha _ hk => ⟨_, hy fr' ha, _, hx fr' ha, _, h3, h4, τ, h6, h7, hk⟩⟩
        · exact h.elim
      · exact h.elim
    · exact h.elim
  case h_18 t x y ho =>
    obtain ⟨vy, h1, h⟩ := h
    unfold ixC at h
    rw [ho]
    split at h
    · obtain ⟨v, h2, d, h3, h⟩ := h
      unfold ixC3 at h
      have hx : ∀ fr', (∀ z ∈ (Op.index t x y).operands, ev fr' z = ev fr z) -> ev fr' x = some v := fun fr' ha => by rw [ha x (by simp [Op.operands])]; exact h2
      have hy : ∀ fr', (∀ z ∈ (Op.index t x y).operands, ev fr' z = ev fr z) -> ev fr' y = some _ := fun fr' ha => by rw [ha y (by simp [Op.operands])]; exact h1
      split at h
      · split at h
        · obtain ⟨h4, τ, h6, u, h7, h8, h9⟩ := h; exact ⟨_, h8, h9, fun fr' H' K' ha _ hk => ⟨_, hy fr' ha, _, hx fr' ha, _, h3, h4, τ, h6, u, h7, h8, hk⟩⟩
        · exact h.elim
      · split at h
        · obtain ⟨h4, b, h7, h8, h9⟩ := h; exact ⟨_, h8, h9, fun fr' H' K' ha _ hk => ⟨_, hy fr' ha, _, hx fr' ha, _, h3, h4, b, h7, h8, hk⟩⟩
        · exact h.elim
      · exact h.elim
    · exact h.elim
  case h_19 x k ho =>
    obtain ⟨v, h1, h⟩ := h
    unfold exC at h
    rw [ho]
    split at h
    · obtain ⟨v, h2, h3, h4⟩ := h; exact ⟨_, h3, h4, fun fr' H' K' ha _ hk => ⟨_, agree1 ha (by simp [Op.operands]) h1, v, h2, h3, hk⟩⟩
    · exact h.elim
  case h_20 t parts ho =>
    obtain ⟨ps, h1, h2, cells, h3, h4, h5⟩ := h
    rw [ho]
    exact ⟨_, h4, h5, fun fr' H' K' ha _ hk => ⟨ps, by rw [evParts_congr (fun x hx => ha x (by simpa [Op.operands] using hx))]; exact h1, h2, cells, h3, h4, hk⟩⟩
  case h_21 t len parts ho => simp [ho, isR] at hR
  case h_22 c ho =>
    obtain ⟨callee, ⟨args⟩, ⟨argTypes⟩⟩ := c
    rw [ho] at hR ⊢
    simp only at h hR ⊢
    split at h
    · simp [isR] at hR
    · split at h
      · rename_i x t
        obtain ⟨v, h1, d, h2, h⟩ := h
        unfold lenC2 at h
        have hx : ∀ fr', (∀ z ∈ (Op.call { callee := .builtin .len, args := ⟨[x]⟩, argTypes := ⟨[t]⟩ }).operands, ev fr' z = ev fr z) -> ev fr' x = some v := fun fr' ha => by rw [ha x (by simp [Op.operands, Call.operands])]; exact h1
        split at h
        · split at h
          · obtain ⟨h3, h4⟩ := h; exact ⟨_, h3, h4, fun fr' H' K' ha _ hk => ⟨_, hx fr' ha, _, h2, h3, hk⟩⟩
          · exact h.elim
        · split at h
          · obtain ⟨h3, h4⟩ := h; exact ⟨_, h3, h4, fun fr' H' K' ha _ hk => ⟨_, hx fr' ha, _, h2, h3, hk⟩⟩
          · exact h.elim
        · exact h.elim
      · exact h.elim
    · split at h
      · rename_i x t
        obtain ⟨v, h1, d, h2, h⟩ := h
        unfold capC2 at h
        have hx : ∀ fr', (∀ z ∈ (Op.call { callee := .builtin .cap, args := ⟨[x]⟩, argTypes := ⟨[t]⟩ }).operands, ev fr' z = ev fr z) -> ev fr' x = some v := fun fr' ha => by rw [ha x (by simp [Op.operands, Call.operands])]; exact h1
        split at h
        · split at h
          · obtain ⟨h3, h4⟩ := h; exact ⟨_, h3, h4, fun fr' H' K' ha _ hk => ⟨_, hx fr' ha, _, h2, h3, hk⟩⟩
          · exact h.elim
        · exact h.elim
      · exact h.elim
    · obtain ⟨vs, h1, h⟩ := h
      have hx : ∀ fr', (∀ z ∈ (Op.call { callee := .builtin .min, args := ⟨args⟩, argTypes := ⟨argTypes⟩ }).operands, ev fr' z = ev fr z) -> evs fr' args = some vs := fun fr' ha => by rw [evs_congr (fun x hx => ha x (by simpa [Op.operands, Call.operands] using hx))]; exact h1
      unfold minC at h
      split at h
      · obtain ⟨h2, h3⟩ := h; exact ⟨_, h2, h3, fun fr' H' K' ha _ hk => ⟨_, hx fr' ha, h2, hk⟩⟩
      · obtain ⟨h2, h3⟩ := h; exact ⟨_, h2, h3, fun fr' H' K' ha _ hk => ⟨_, hx fr' ha, h2, hk⟩⟩
      · exact h.elim
    · obtain ⟨vs, h1, h⟩ := h
      have hx : ∀ fr', (∀ z ∈ (Op.call { callee := .builtin .max, args := ⟨args⟩, argTypes := ⟨argTypes⟩ }).operands, ev fr' z = ev fr z) -> evs fr' args = some vs := fun fr' ha => by rw [evs_congr (fun x hx => ha x (by simpa [Op.operands, Call.operands] using hx))]; exact h1
      unfold maxC at h
      split at h
      · obtain ⟨h2, h3⟩ := h; exact ⟨_, h2, h3, fun fr' H' K' ha _ hk => ⟨_, hx fr' ha, h2, hk⟩⟩
      · obtain ⟨h2, h3⟩ := h; exact ⟨_, h2, h3, fun fr' H' K' ha _ hk => ⟨_, hx fr' ha, h2, hk⟩⟩
      · exact h.elim
    · simp [isR] at hR
    · simp [isR] at hR
    · exact h.elim
  case h_23 => exact h.elim

theorem vstep_RX {ops : Array Oper} (hR : isR o.op = true) (hK : Closed K) (h : vstep P N ops o K fr H) :
    ∃ v, K (fr.put o.dst v) H /\ ∀ (fr' : Fr) (H' : Heap) (K' : Fr -> Heap -> Prop), Closed K' -> agreeG ops o fr fr' -> (∀ i, rdBlk o.op fr = some i -> ∀ b : Blk, H[i]? = some b -> H'[i]? = some b) -> K' (fr'.put o.dst v) H' -> vstep P N ops o K' fr' H' := by
  unfold vstep at h ⊢
  cases hg : o.guard with
  | none =>
    simp only [hg] at h ⊢
    obtain ⟨v, h1, h2, h3⟩ := vop_RX hR h
    exact ⟨v, h2, fun fr' H' K' _ ha hh hk => h3 fr' H' K' ha.agree hh hk⟩
  | some jw =>
    obtain ⟨j, want⟩ := jw
    simp only [hg] at h ⊢
    obtain ⟨t, ht, hN, u, hu, h⟩ := h
    have hl : t ∈ looks ops o := by simp [looks, hg, ht]
    have hget : ∀ fr', agreeG ops o fr fr' -> Fr.get fr' t = some u := fun fr' ha => by rw [ha t hl]; exact hu
    unfold guardC2 at h
    split at h
    · rename_i b
      by_cases hb : b = want
      · obtain ⟨v, h1, h2, h3⟩ := vop_RX hR (h.1 (by simpa using hb))
        subst hb
        refine ⟨v, hK _ _ _ (feq.put (get_set_same hu) _ _) h2, fun fr' H' K' hK' ha hh hk => ⟨t, ht, hN, .bool b, hget fr' ha, ?_⟩⟩
        refine ⟨fun _ => h3 _ H' K' ?_ (fun i hi => hh i (by rw [<- hi]; exact rdBlk_congr fun x => feq.ev (get_set_same hu) x)) (hK' _ _ _ (feq.put (feq.symm (get_set_same (hget fr' ha))) _ _) hk), fun e => by simp at e⟩
        intro x hx
        rw [feq.ev (feq.symm (get_set_same (hget fr' ha))) x, ha.agree x hx, feq.ev (get_set_same hu) x]
      · have hb2 : b = !want := by cases b <;> cases want <;> simp_all
        obtain ⟨h1, h2⟩ := h.2 (by simpa using hb)
        subst hb2
        refine ⟨undef, hK _ _ _ (feq.put (get_set_same hu) _ _) h2, fun fr' H' K' hK' ha hh hk => ⟨t, ht, hN, .bool _, hget fr' ha, ?_⟩⟩
        exact ⟨fun e => absurd (by simpa using e) hb, fun _ => ⟨h1, hK' _ _ _ (feq.put (feq.symm (get_set_same (hget fr' ha))) _ _) hk⟩⟩
    · rename_i hnb
      obtain ⟨h1, h2⟩ := h
      refine ⟨undef, h2, fun fr' H' K' _ ha hh hk => ⟨t, ht, hN, u, hget fr' ha, ?_⟩⟩
      unfold guardC2
      split
      · exact absurd rfl (hnb _)
      · exact ⟨h1, hk⟩

end

def eKX (L : Nat) (fl : Bool) (H : Heap) (k : Fr -> Heap -> Prop) (f : Fr) (h : Heap) : Prop :=
  match fl with
  | true => andK (KeepL L H h) (k f h)
  | false => k f h

def vEX (P : Program) (N : Nat) (ops : Array Oper) (L : Nat) (K : Fr -> Heap -> Prop) : List (Nat × Bool) -> Fr -> Heap -> Prop
  | [], fr, H => K fr H
  | (i, fl) :: l, fr, H => match ops[i]? with
    | none => False
    | some o => match isR o.op with
      | true => offL L o.op fr /\ vstep P N ops o (vEX P N ops L K l) fr H
      | false => vstep P N ops o (eKX L fl H (vEX P N ops L K l)) fr H

section
variable {P : Program} {N : Nat} {ops : Array Oper} {L : Nat} {K : Fr -> Heap -> Prop}

theorem vEX_closed (hK : Closed K) : ∀ l, Closed (vEX P N ops L K l)
  | [] => hK
  | (i, fl) :: l => by
    intro f g H hfg h
    have ih := vEX_closed hK l
    simp only [vEX] at h ⊢
    split at h
    · exact h.elim
    · rename_i o ho
      cases hR : isR o.op with
      | true =>
        simp only [hR] at h ⊢
        obtain ⟨hoff, h⟩ := h
        obtain ⟨v, h1, h2⟩ := vstep_RX hR ih h
        exact ⟨offL_congr (fun x => feq.ev hfg x) hoff, h2 g H _ ih (agreeG.of_feq hfg) (fun _ _ _ h => h) (ih _ _ _ (hfg.put _ _) h1)⟩
      | false =>
        simp only [hR] at h ⊢
        have hc : Closed (eKX L fl H (vEX P N ops L K l)) := by
          intro f g h' hfg hk
          cases fl with
          | true => exact ⟨hk.1, ih _ _ _ hfg hk.2⟩
          | false => exact ih _ _ _ hfg hk
        refine vstep_weak (vstep_E hc h (agreeG.of_feq hfg)) ?_
        rintro f' h' ⟨v, h1, h2⟩
        exact hc _ _ _ ((hfg.put _ _).trans h1) h2

def relX (L : Nat) (o : Oper) (fl : Bool) (H h : Heap) : Prop := (isR o.op = true \/ fl = true) -> KeepL L H h

theorem vEX_head (hK : Closed K) {i : Nat} {fl : Bool} {l : List (Nat × Bool)} {fr : Fr} {H : Heap} {o : Oper} (ho : ops[i]? = some o) (h : vEX P N ops L K ((i, fl) :: l) fr H) :
    vstep P N ops o (fun f h => relX L o fl H h /\ vEX P N ops L K l f h) fr H := by
  simp only [vEX, ho] at h
  cases hR : isR o.op with
  | true =>
    simp only [hR] at h
    obtain ⟨_, h⟩ := h
    obtain ⟨v, h1, h2⟩ := vstep_RX hR (vEX_closed hK l) h
    refine h2 fr H _ ?_ (fun _ _ => rfl) (fun _ _ _ h => h) ⟨fun _ _ _ => rfl, h1⟩
    intro f g h hfg hk
    exact ⟨hk.1, vEX_closed hK l _ _ _ hfg hk.2⟩
  | false =>
    simp only [hR] at h
    refine vstep_weak h ?_
    intro f h' hk
    cases fl with
    | true => exact ⟨fun _ => hk.1, hk.2⟩
    | false => exact ⟨fun e => by simp [hR] at e, hk⟩

theorem vEX_front (hK : Closed K) {i : Nat} {fl : Bool} {l2 : List (Nat × Bool)} {o : Oper} (ho : ops[i]? = some o) : ∀ (l1 : List (Nat × Bool)) (fr : Fr) (H : Heap),
    (∀ x ∈ l1, ∃ p, ops[x.1]? = some p /\ isR p.op = true /\ indep ops p o = true /\ (readsH p.op = true -> isR o.op = true \/ fl = true)) ->
    vEX P N ops L K (l1 ++ (i, fl) :: l2) fr H -> vstep P N ops o (fun f h => relX L o fl H h /\ vEX P N ops L K (l1 ++ l2) f h) fr H
  | [], fr, H, _, h => vEX_head hK ho h
  | (j, fj) :: l1, fr, H, hl, h => by
    obtain ⟨p, hp, hR, hin, hrd⟩ := hl (j, fj) (by simp)
    simp only [List.cons_append, vEX, hp, hR] at h ⊢
    have hc1 := vEX_closed (P := P) (N := N) (ops := ops) (L := L) hK (l1 ++ (i, fl) :: l2)
    have hc2 := vEX_closed (P := P) (N := N) (ops := ops) (L := L) hK (l1 ++ l2)
    obtain ⟨hoff, h⟩ := h
    obtain ⟨v, h1, h2⟩ := vstep_RX hR hc1 h
    have ih := vEX_front hK ho l1 (fr.put p.dst v) H (fun x hx => hl x (by simp [hx])) h1
    obtain ⟨i1, i2, i3⟩ := indep_spec hin
    have hcK : Closed (fun f h => relX L o fl H h /\ vEX P N ops L K (l1 ++ l2) f h) := fun f g h hfg hk => ⟨hk.1, hc2 _ _ _ hfg hk.2⟩
    have hag : agreeG ops o (fr.put p.dst v) fr := agreeG.symm (agreeG.put i1)
    refine vstep_weak (vstep_E hcK ih hag) ?_
    rintro f h' ⟨u, hf, hrel, hv⟩
    refine ⟨hrel, ?_⟩
    have hvE : offL L p.op (fr.put o.dst u) /\ vstep P N ops p (vEX P N ops L K (l1 ++ l2)) (fr.put o.dst u) h' := by
      refine ⟨offL_agree (agreeG.put i2).agree hoff, ?_⟩
      refine h2 (fr.put o.dst u) h' _ hc2 (agreeG.put i2) (fun i hi b hb => ?_) ?_
      · rw [hrel (hrd (by cases hr : readsH p.op with | true => rfl | false => rw [rdBlk_none hr] at hi; cases hi)) i (hoff i hi), hb]
      exact hc2 _ _ _ (put_comm fr i3 v u) hv
    have hfin := vEX_closed (P := P) (N := N) (ops := ops) (L := L) hK ((j, fj) :: (l1 ++ l2)) (fr.put o.dst u) f h' hf (by simp only [vEX, hp, hR]; exact hvE)
    simpa only [vEX, hp, hR] using hfin

theorem draw_anyX {B : Nat} {w0 : World} {Q : Exit -> Act -> World -> Prop} (hK : Closed K) (hedge : edgesOK ops = true) : ∀ (n : Nat) (listed : Array Bool) (l : List (Nat × Bool)) (fr : Fr) (H : Heap) (ρ : Rho) (w : World) (a : Act),
    listed.size = ops.size -> l.length = n -> pairsOK ops (masksGo ops.toList []) l = true -> (∀ x ∈ l, x.1 < ops.size /\ listed.getD x.1 true = false) -> (∀ i, i < ops.size -> listed.getD i true = false -> ∃ x ∈ l, x.1 = i) ->
    (∀ (j : Nat) (o : Oper), ops[j]? = some o -> listed.getD j false = true -> ∀ e ∈ o.after.toList, Region.binds .any e = true -> listed.getD e.on false = true) ->
    vEX P N ops L K l fr H -> R B w0 ρ H w -> FR N ρ fr a ->
    (∀ (ρ' : Rho) (fr' : Fr) (H' : Heap) (a' : Act) (w' : World), ρ <+: ρ' -> K fr' H' -> R B w0 ρ' H' w' -> FR N ρ' fr' a' -> Q .normal a' w') -> wpAny P .any ops Q n listed a w := by
  intro n
  have getD2 : ∀ (listed : Array Bool) (i : Nat), listed.size = ops.size -> i < ops.size -> listed.getD i true = listed.getD i false := by
    intro listed i h1 h2
    simp [Array.getD_eq_getD_getElem?, h1, h2]
  induction n with
  | zero =>
    intro listed l fr H ρ w a hsz hl hp hin hall hcl hv hR hF hq
    have : l = [] := List.eq_nil_of_length_eq_zero hl
    subst this
    refine ⟨?_, hq ρ fr H a w (List.prefix_refl _) hv hR hF⟩
    rw [List.eq_nil_iff_forall_not_mem]
    intro i hi
    simp only [Region.ready, List.mem_filter, List.mem_range, Bool.and_eq_true, Bool.not_eq_true'] at hi
    obtain ⟨x, hx, _⟩ := hall i hi.1 hi.2.1
    simp at hx
  | succ n ih =>
    intro listed l fr H ρ w a hsz hl hp hin hall hcl hv hR hF hq
    refine ⟨?_, ?_⟩
    · intro hnil
      exfalso
      match l, hl with
      | (i, fl) :: l, hl =>
        obtain ⟨h1, h2⟩ := hin (i, fl) (by simp)
        have hi : i ∈ Region.ready .any ops listed := by
          simp only [Region.ready, List.mem_filter, List.mem_range, Bool.and_eq_true, Bool.not_eq_true']
          refine ⟨h1, h2, ?_⟩
          rw [Array.getElem?_eq_getElem h1]
          simp only [Option.map_some, Option.getD_some, Array.all_eq_true']
          intro e he
          rw [Bool.or_eq_true, Bool.not_eq_true']
          by_cases hb : Region.binds .any e = true
          · right
            have hedge' := List.all_eq_true.1 hedge i (by simpa using h1)
            simp only [Array.getElem?_eq_getElem h1, List.all_eq_true] at hedge'
            have he' := hedge' e (by simpa using he)
            simp only [hb, Bool.not_true, Bool.false_or, Bool.and_eq_true, decide_eq_true_eq, bne_iff_ne, ne_eq] at he'
            rw [<- getD2 listed e.on hsz he'.1]
            cases hg : listed.getD e.on true with
            | true => rfl
            | false =>
              obtain ⟨x, hx, hxe⟩ := hall e.on he'.1 hg
              rcases List.mem_cons.1 hx with rfl | hx
              · exact absurd hxe.symm he'.2
              · have hpo := (pairsOK_spec (l1 := []) hp).2.1 x hx
                have hx1 := (hin x (by simp [hx])).1
                simp only [pairOK, Array.getElem?_eq_getElem h1, Array.getElem?_eq_getElem hx1, Bool.and_eq_true, Bool.not_eq_true'] at hpo
                have hd := hpo.1.1
                simp only [directTo, List.any_eq_false, Bool.and_eq_true, beq_iff_eq, not_and] at hd
                exact absurd hxe.symm (hd e (by simpa using he) hb)
          · left; simpa using hb
        rw [hnil] at hi
        simp at hi
    · intro i hi
      simp only [Region.ready, List.mem_filter, List.mem_range, Bool.and_eq_true, Bool.not_eq_true'] at hi
      obtain ⟨hilt, hnl, hrdy⟩ := hi
      rw [Array.getElem?_eq_getElem hilt] at hrdy
      simp only [Option.map_some, Option.getD_some, Array.all_eq_true'] at hrdy
      have ho : ops[i]? = some ops[i] := Array.getElem?_eq_getElem hilt
      obtain ⟨x, hx, hxi⟩ := hall i hilt hnl
      obtain ⟨l1, l2, rfl⟩ := List.append_of_mem hx
      obtain ⟨i', fl⟩ := x
      simp only at hxi
      subst hxi
      obtain ⟨hp1, hp2, hp3⟩ := pairsOK_spec hp
      have hpre : ∀ e ∈ (ops[i']).after.toList, Region.binds .any e = true -> listed.getD e.on false = true := by
        intro e he hb
        have := hrdy e (by simpa using he)
        simpa [hb] using this
      have hdep : ∀ y ∈ l1, ¬ ((masksGo ops.toList []).getD i' 0).testBit y.1 = true := by
        intro y hy hb
        have := masks_sound (ops := ops) (fun j => listed.getD j false = true) hcl ops.toList [] (fun j _ => by simp) (fun j o p hj => by simp at hj) i' _ y.1 ho hb hpre
        obtain ⟨hy1, hy2⟩ := hin y (by simp [hy])
        rw [getD2 listed y.1 hsz hy1] at hy2
        rw [hy2] at this; cases this
      have hl1 : ∀ y ∈ l1, ∃ p, ops[y.1]? = some p /\ isR p.op = true /\ indep ops p ops[i'] = true /\ (readsH p.op = true -> isR (ops[i']).op = true \/ fl = true) := by
        intro y hy
        have hy1 := (hin y (by simp [hy])).1
        have hpo := hp1 y hy
        have hd := hdep y hy
        refine ⟨ops[y.1], Array.getElem?_eq_getElem hy1, ?_⟩
        simp only [pairOK, Array.getElem?_eq_getElem hy1, ho, Bool.and_eq_true] at hpo
        have hpo2 := hpo.2
        simp only [Bool.not_eq_true] at hd
        cases hRp : isR (ops[y.1]).op with
        | false => simp only [hRp] at hpo2; rw [hd] at hpo2; cases hpo2
        | true =>
          simp only [hRp, hd, Bool.false_or, Bool.or_false, Bool.and_eq_true, Bool.or_eq_true, Bool.not_eq_true'] at hpo2
          refine ⟨rfl, hpo2.1, fun hr => ?_⟩
          rcases hpo2.2 with (h | h) | h
          · exact .inl h
          · exact .inr h
          · rw [hr] at h; cases h
      have hstep := vEX_front hK ho l1 fr H hl1 hv
      unfold wpOp
      rw [ho]
      have hnd : ∀ y ∈ l1 ++ l2, y.1 ≠ i' := by
        intro y hy e
        rcases List.mem_append.1 hy with hy | hy
        · have hpo := hp1 y hy
          have hy1 := (hin y (by simp [hy])).1
          simp [pairOK, Array.getElem?_eq_getElem hy1, ho, e] at hpo
        · have hpo := hp2 y hy
          have hy1 := (hin y (by simp [hy])).1
          simp [pairOK, Array.getElem?_eq_getElem hy1, ho, e] at hpo
      refine vstep_sound hstep hR hF Q ?_
      rintro ρ' fr' H' a' w' hpre' ⟨_, hv'⟩ hR' hF'
      refine ih (listed.setIfInBounds i' true) (l1 ++ l2) fr' H' ρ' w' a' (by simpa using hsz) (by simp at hl ⊢; omega) hp3 ?_ ?_ ?_ hv' hR' hF' (fun ρ'' f'' H'' a'' w'' h1 => hq ρ'' f'' H'' a'' w'' (hpre'.trans h1))
      · intro y hy
        have hne := hnd y hy
        obtain ⟨h1, h2⟩ := hin y (by rcases List.mem_append.1 hy with hy | hy <;> simp [hy])
        exact ⟨h1, by rw [getD_set_ne _ (fun e => hne e.symm)]; exact h2⟩
      · intro j hj hnj
        by_cases e : i' = j
        · subst e
          exfalso
          have : (listed.setIfInBounds i' true).getD i' true = true := by simp [Array.getD_eq_getD_getElem?]
          rw [this] at hnj; cases hnj
        · rw [getD_set_ne _ e] at hnj
          obtain ⟨y, hy, rfl⟩ := hall j hj hnj
          refine ⟨y, ?_, rfl⟩
          rcases List.mem_append.1 hy with hy | hy
          · simp [hy]
          · rcases List.mem_cons.1 hy with rfl | hy
            · exact absurd rfl e
            · simp [hy]
      · intro j o hj hlj e he hb
        by_cases e' : i' = j
        · subst e'
          rw [ho] at hj; cases hj
          exact getD_set_true (hpre e he hb)
        · rw [getD_set_ne _ e'] at hlj
          exact getD_set_true (hcl j o hj hlj e he hb)

theorem AWp.drawX (L : Nat) {id : Nat} {fr : Fr} {H : Heap} {Q : Exit -> Fr -> Heap -> Prop} (hm : P.follows .mixedOrders = true) (canon : List (Nat × Bool)) (hok : drawOK ops canon = true) (h : vEX P N ops L (Q .normal) canon fr H) : AWp P N (.region id ops true) Q fr H := by
  intro B w0 ρ w a hR hF
  simp only [drawOK, Bool.and_eq_true, decide_eq_true_eq, List.all_eq_true, List.mem_range, List.contains_iff_mem, List.mem_map] at hok
  obtain ⟨⟨⟨⟨h1, h2⟩, h3⟩, h4⟩, h5⟩ := hok
  refine wp_region_any hm ?_
  let K : Fr -> Heap -> Prop := fun f h => ∃ g, feq g f /\ Q .normal g h
  have hK : Closed K := fun f g h hfg ⟨k, hk, hq⟩ => ⟨k, hk.trans hfg, hq⟩
  have hv : vEX P N ops L K canon fr H := by
    have weak : ∀ (l : List (Nat × Bool)) (fr : Fr) (H : Heap), vEX P N ops L (Q .normal) l fr H -> vEX P N ops L K l fr H := by
      intro l
      induction l with
      | nil => exact fun fr H h => ⟨fr, feq.rfl' _, h⟩
      | cons x l ih =>
        obtain ⟨i, fl⟩ := x
        intro fr H h
        simp only [vEX] at h ⊢
        split at h
        · exact h
        · rename_i o ho
          cases hR : isR o.op with
          | true => simp only [hR] at h ⊢; exact ⟨h.1, vstep_weak h.2 ih⟩
          | false =>
            simp only [hR] at h ⊢
            refine vstep_weak h ?_
            intro f h' hk
            cases fl with
            | true => exact ⟨hk.1, ih _ _ hk.2⟩
            | false => exact ih _ _ hk
    exact weak canon fr H h
  have hgt : ∀ i, i < ops.size -> (Array.replicate ops.size false).getD i true = false := by
    intro i hi
    simp [Array.getD_eq_getD_getElem?, hi]
  refine draw_anyX (B := B) (w0 := w0) hK h2 ops.size (Array.replicate ops.size false) canon fr H ρ w.drew a (by simp) h3 h1 ?_ ?_ ?_ hv hR.drew hF ?_
  · intro x hx
    exact ⟨h4 x hx, hgt x.1 (h4 x hx)⟩
  · intro i hi _
    obtain ⟨x, hx, rfl⟩ := h5 i hi
    exact ⟨x, hx, rfl⟩
  · intro j o hj hl
    rw [Array.getD_eq_getD_getElem?, Array.getElem?_replicate] at hl
    split at hl <;> simp at hl
  · rintro ρ' fr' H' a' w' hp ⟨g, hg, hq⟩ hR' hF'
    exact ⟨ρ', g, H', hp, hR', hF'.feq hg.symm, hq⟩

/-! The words of such an order, for simp. -/

def vEXK (P : Program) (N : Nat) (ops : Array Oper) (L : Nat) (K : Fr -> Heap -> Prop) (l : List (Nat × Bool)) (fr : Fr) (H : Heap) : Prop := vEX P N ops L K l fr H
def eKXK (P : Program) (N : Nat) (ops : Array Oper) (L : Nat) (K : Fr -> Heap -> Prop) (l : List (Nat × Bool)) (fl : Bool) (H : Heap) (fr : Fr) (H' : Heap) : Prop :=
  match fl with
  | true => andK (KeepL L H H') (vEX P N ops L K l fr H')
  | false => vEX P N ops L K l fr H'
def offB (L : Nat) (o : Op) (fr : Fr) : Prop := match rdBlk o fr with
  | some i => i < L
  | none => True
theorem offB_iff {L : Nat} {o : Op} {fr : Fr} : offB L o fr = offL L o fr := by
  unfold offB offL
  cases rdBlk o fr with
  | none => simp
  | some i => simp
def vEXo (P : Program) (N : Nat) (ops : Array Oper) (L : Nat) (K : Fr -> Heap -> Prop) (l : List (Nat × Bool)) (fl : Bool) (fr : Fr) (H : Heap) (o : Oper) : Prop :=
  match isR o.op with
  | true => andK (offB L o.op fr) (vstep P N ops o (vEXK P N ops L K l) fr H)
  | false => vstep P N ops o (eKXK P N ops L K l fl H) fr H

theorem vEX_nil (K : Fr -> Heap -> Prop) (fr : Fr) (H : Heap) : vEX P N ops L K [] fr H = K fr H := rfl
theorem vEX_cons (K : Fr -> Heap -> Prop) (i : Nat) (fl : Bool) (l : List (Nat × Bool)) (fr : Fr) (H : Heap) : vEX P N ops L K ((i, fl) :: l) fr H = bindO ops[i]? (vEXo P N ops L K l fl fr H) := by
  have e : eKX L fl H (vEX P N ops L K l) = eKXK P N ops L K l fl H := by
    funext f h
    cases fl <;> rfl
  simp only [vEX]
  cases ops[i]? with
  | none => simp [bindO]
  | some o =>
    simp only [bindO_some, vEXo]
    cases isR o.op with
    | true => rw [offB_iff]; rfl
    | false => simp only [e]

attribute [go_sem] vEXK eKXK vEXo vEX_nil vEX_cons offB rdBlk blkOf

end
end Go.Ab
end

section
namespace Go.Ab

def OE (e L : Nat) (H : Heap) (v : Value) (cs : List Value) (n : Nat) : Prop :=
  cs.length = n * e /\ ((n = 0 /\ v = .slice none 0 0) \/ (∃ id, n = 0 /\ L <= id /\ v = .slice (some ⟨id, 0, none⟩) 0 0 /\ H[id]? = some ⟨[], true, true⟩) \/
    ∃ id, L <= id /\ v = lv e id 0 n /\ ((n = 0 /\ (ghostAt H id = true \/ ownAt H id = true)) \/ H[id]? = some ⟨cs, true, true⟩))

theorem OE.nil (e L : Nat) (H : Heap) : OE e L H (.slice none 0 0) [] 0 := ⟨by simp, .inl ⟨rfl, rfl⟩⟩
theorem OE.empty {e L : Nat} {H : Heap} {id : Nat} (hL : L <= id) (h : H[id]? = some ⟨[], true, true⟩) : OE e L H (.slice (some ⟨id, 0, none⟩) 0 0) [] 0 := ⟨by simp, .inr (.inl ⟨id, rfl, hL, rfl, h⟩)⟩
theorem OE.one {e L : Nat} {H : Heap} {v : Value} {cs : List Value} {n : Nat} (h : OE e L H v cs n) : v.oneCell' = true := by
  rcases h.2 with ⟨rfl, rfl⟩ | ⟨id, rfl, _, rfl, _⟩ | ⟨id, _, rfl, _⟩ <;> rfl
theorem OE.shape {e L : Nat} {H : Heap} {v : Value} {cs : List Value} {n : Nat} (h : OE e L H v cs n) : ∃ a, v = .slice a n n := by
  rcases h.2 with ⟨rfl, rfl⟩ | ⟨id, rfl, _, rfl, _⟩ | ⟨id, _, rfl, _⟩ <;> exact ⟨_, rfl⟩
theorem OE.keep {e L : Nat} {H H' : Heap} {S : Nat -> Prop} (hs : Same S H H') (hS : ∀ j, L <= j -> ¬ S j) {v : Value} {cs : List Value} {n : Nat} (h : OE e L H v cs n) : OE e L H' v cs n := by
  have keep : ∀ {id : Nat} {b : Blk}, L <= id -> H[id]? = some b -> H'[id]? = some b := fun hL hb => hs.get hb (hS _ hL)
  refine ⟨h.1, ?_⟩
  rcases h.2 with h | ⟨id, h1, h2, h3, h4⟩ | ⟨id, h1, h2, h3⟩
  · exact .inl h
  · exact .inr (.inl ⟨id, h1, h2, h3, keep h2 h4⟩)
  · refine .inr (.inr ⟨id, h1, h2, ?_⟩)
    rcases h3 with ⟨h0, h3⟩ | h3
    · refine .inl ⟨h0, ?_⟩
      rcases h3 with h3 | h3
      · obtain ⟨b, hb, h5, h6⟩ := ghostAt_inv h3
        left; simp [ghostAt, keep h1 hb, h5, h6]
      · obtain ⟨b, hb, h5, h6⟩ := ownAt_inv h3
        right; simp [ownAt, keep h1 hb, h5, h6]
    · exact .inr (keep h1 h3)
theorem OE.pre {e L : Nat} {H H' : Heap} (hp : H <+: H') {v : Value} {cs : List Value} {n : Nat} (h : OE e L H v cs n) : OE e L H' v cs n := h.keep (S := fun _ => False) (Same.of_prefix hp) (fun _ _ h => h)

theorem KeepL.of_prefix {L : Nat} {H H' : Heap} (hp : H <+: H') (hL : L <= H.length) : KeepL L H H' := by
  intro i hi
  obtain ⟨t, rfl⟩ := hp
  exact List.getElem?_append_left (by omega)
theorem KeepL.refl (L : Nat) (H : Heap) : KeepL L H H := fun _ _ => rfl

theorem OE.append {e L : Nat} {H : Heap} {v : Value} {cs : List Value} {n : Nat} (h : OE e L H v cs n) (he : 0 < e) (hL : L <= H.length) {m : Nat} {news : List Value} (hn : news.length = m * e) :
    ∃ v' H', appendH H e v m news = some (v', H') /\ OE e L H' v' (cs ++ news) (n + m) /\ KeepL L H H' /\ H.length <= H'.length := by
  by_cases hm : m = 0
  · subst hm
    have : news = [] := List.eq_nil_of_length_eq_zero (by simpa using hn)
    subst this
    obtain ⟨a, rfl⟩ := h.shape
    exact ⟨.slice a n n, H, by simp [appendH], by simpa using h, KeepL.refl _ _, Nat.le_refl _⟩
  · have new : ∀ cs' : List Value, (H ++ [(⟨cs', true, true⟩ : Blk)])[H.length]? = some ⟨cs', true, true⟩ := by intro cs'; simp
    rcases h.2 with ⟨rfl, rfl⟩ | ⟨id, rfl, h1, rfl, h2⟩ | ⟨id, h1, rfl, h2⟩
    · have : cs = [] := List.eq_nil_of_length_eq_zero (by simpa using h.1)
      subst this
      refine ⟨lv e H.length 0 m, H ++ [⟨news, true, true⟩], by simp [appendH, hm], ⟨by simpa using hn, .inr (.inr ⟨H.length, hL, by simp, .inr (new _)⟩)⟩, KeepL.of_prefix (List.prefix_append _ _) hL, by simp⟩
    · have : cs = [] := List.eq_nil_of_length_eq_zero (by simpa using h.1)
      subst this
      have hc : cellsAt H id 0 0 = some [] := by rw [cellsAt_of h2 rfl (by simp)]; simp
      refine ⟨lv e H.length 0 m, H ++ [⟨news, true, true⟩], by simp [appendH, hm, hc], ⟨by simpa using hn, .inr (.inr ⟨H.length, hL, by simp, .inr (new _)⟩)⟩, KeepL.of_prefix (List.prefix_append _ _) hL, by simp⟩
    · have kill : ∀ cs' : List Value, KeepL L H (H.kill id ++ [⟨cs', true, true⟩]) := by
        intro cs' i hi
        rw [List.getElem?_append_left (by rw [Heap.kill_length]; omega)]
        unfold Heap.kill
        split
        · exact List.getElem?_set_ne (by omega)
        · rfl
      have newk : ∀ cs' : List Value, (H.kill id ++ [(⟨cs', true, true⟩ : Blk)])[H.length]? = some ⟨cs', true, true⟩ := by
        intro cs'
        rw [List.getElem?_append_right (by rw [Heap.kill_length]; exact Nat.le_refl _), Heap.kill_length]; simp
      rcases h2 with ⟨rfl, h2⟩ | h2
      · have : cs = [] := List.eq_nil_of_length_eq_zero (by simpa using h.1)
        subst this
        by_cases hg : ghostAt H id = true
        · refine ⟨lv e H.length 0 m, H ++ [⟨news, true, true⟩], by simp [appendH, hm, hg, he], ⟨by simpa using hn, .inr (.inr ⟨H.length, hL, by simp, .inr (new _)⟩)⟩, KeepL.of_prefix (List.prefix_append _ _) hL, by simp⟩
        · have ho := h2.resolve_left hg
          obtain ⟨b, hb, hbl, hbo⟩ := ownAt_inv ho
          have hc : cellsAt H id 0 0 = some [] := by rw [cellsAt_of hb hbl (by simp)]; simp
          exact ⟨lv e H.length 0 m, H.kill id ++ [⟨news, true, true⟩], by simp [appendH, hm, hg, ho, hc], ⟨by simpa using hn, .inr (.inr ⟨H.length, hL, by simp, .inr (newk _)⟩)⟩, kill _, by simp [Heap.kill_length]⟩
      · have hc : cellsAt H id 0 (n * e) = some cs := by rw [<- h.1, cellsAt_of h2 rfl (by simp)]; simp
        have hown : ownAt H id = true := by simp [ownAt, h2]
        have hng : ghostAt H id = false := by simp [ghostAt, h2]
        exact ⟨lv e H.length 0 (n + m), H.kill id ++ [⟨cs ++ news, true, true⟩], by simp [appendH, hm, hown, hng, hc], ⟨by simp [h.1, hn, Nat.add_mul], .inr (.inr ⟨H.length, hL, rfl, .inr (newk _)⟩)⟩, kill _, by simp [Heap.kill_length]⟩

theorem KeepL.prefix {L : Nat} {H0 H H' : Heap} (hp : H0 <+: H) (hL : H0.length <= L) (hk : KeepL L H H') (hl : H.length <= H'.length) : H0 <+: H' :=
  (show Same (fun j => L <= j) H0 H' from (Same.of_prefix hp).trans ⟨hl, fun j _ hj => hk j (by omega)⟩).prefix (by intro j hj h; omega)

theorem At.take_tri {H : Heap} {i o : Nat} {bs : List Bk} (h : At H i o (tri bs)) (k : Nat) (hk : k <= bs.length) : At H i o (tri (bs.take k)) := by
  by_cases h0 : k = 0
  · subst h0; exact .inl rfl
  · right
    have e : tri (bs.take k) = (tri bs).take (k * 3) := by
      have e2 : tri bs = tri (bs.take k) ++ tri (bs.drop k) := by rw [<- tri_append, List.take_append_drop]
      rw [e2, List.take_left' (by rw [tri_length, List.length_take]; omega)]
    have := h.sub (k := 0) (n := k * 3) (by omega) (by rw [tri_length]; omega)
    rw [tri_length, List.length_take, Nat.min_eq_left hk, e]
    simpa using this
theorem At.drop_tri {H : Heap} {i o : Nat} {bs : List Bk} (h : At H i o (tri bs)) (k : Nat) (hk : k <= bs.length) : At H i (o + k * 3) (tri (bs.drop k)) := by
  by_cases h0 : k = bs.length
  · subst h0; left; simp [tri]
  · right
    have e : tri (bs.drop k) = (tri bs).drop (k * 3) := by
      have e2 : tri bs = tri (bs.take k) ++ tri (bs.drop k) := by rw [<- tri_append, List.take_append_drop]
      rw [e2, List.drop_left' (by rw [tri_length, List.length_take]; omega)]
    have := h.sub (k := k * 3) (n := (bs.length - k) * 3) (by omega) (by rw [tri_length]; omega)
    rw [tri_length, List.length_drop, e, this, List.take_of_length_le (by rw [List.length_drop, tri_length]; omega)]
theorem At.src {H : Heap} {i o n : Nat} {cs : List Value} {e : Nat} {s : Option Nat} (h : At H i o cs) (hn : cs.length = n * e) (he : 0 < e) (c : Nat) : srcCells H e (.slice (some ⟨i, o, s⟩) n c) = some cs := by
  simp only [srcCells]
  by_cases h0 : n = 0
  · rw [if_pos h0]; subst h0; simp at hn; rw [hn]
  · rw [if_neg h0, <- hn]
    refine h.resolve_left (fun hc => ?_)
    have hpos : 0 < n * e := Nat.mul_pos (by omega) he
    rw [hc, List.length_nil] at hn
    omega

end Go.Ab
namespace Go.Proofs.YtfnegaedkomcgaaGreat
open Go.Ab

theorem _root_.Go.Ab.OE.blocks {L : Nat} {H : Heap} {v : Value} {bs : List Bk} (h : OE 3 L H v (tri bs) bs.length) (hl : bs.length <= 140737488355328) : ∃ w, Up H v w /\ BlocksIn L H.length H w bs := by
  rcases h.2 with ⟨h0, rfl⟩ | ⟨id, h0, h1, rfl, h2⟩ | ⟨id, h1, rfl, h2⟩
  · obtain rfl := List.eq_nil_of_length_eq_zero h0
    exact ⟨_, Up.nil _ 0 0 3, BlocksIn.nil _ _ _⟩
  · obtain rfl := List.eq_nil_of_length_eq_zero h0
    exact ⟨_, Up.ex0 _ _ _ 3 0 0, BlocksIn.nil _ _ _⟩
  · refine ⟨_, Up.refl _ _, id, ⟨rfl, ?_, hl⟩, fun hne => ?_⟩
    · rcases h2 with ⟨h0, _⟩ | h2
      · exact .inl (List.eq_nil_of_length_eq_zero h0)
      · exact .inr h2
    · rcases h2 with ⟨h0, _⟩ | h2
      · exact absurd (List.eq_nil_of_length_eq_zero h0) hne
      · exact ⟨h1, (List.getElem?_eq_some_iff.1 h2).1⟩
theorem _root_.Go.Ab.OE.ints {L : Nat} {H : Heap} {v : Value} {xs : List Int} (h : OE 1 L H v (ints xs) xs.length) (hl : xs.length <= 140737488355328) : ∃ w, Up H v w /\ IntsIn L H.length H w xs := by
  rcases h.2 with ⟨h0, rfl⟩ | ⟨id, h0, h1, rfl, h2⟩ | ⟨id, h1, rfl, h2⟩
  · obtain rfl := List.eq_nil_of_length_eq_zero h0
    exact ⟨_, Up.nil _ 0 0 1, IntsIn.nil _ _ _⟩
  · obtain rfl := List.eq_nil_of_length_eq_zero h0
    exact ⟨_, Up.ex0 _ _ _ 1 0 0, IntsIn.nil _ _ _⟩
  · refine ⟨_, Up.refl _ _, id, ⟨rfl, ?_, hl⟩, fun hne => ?_⟩
    · rcases h2 with ⟨h0, _⟩ | h2
      · exact .inl (List.eq_nil_of_length_eq_zero h0)
      · exact .inr h2
    · rcases h2 with ⟨h0, _⟩ | h2
      · exact absurd (List.eq_nil_of_length_eq_zero h0) hne
      · exact ⟨h1, (List.getElem?_eq_some_iff.1 h2).1⟩

def without (bs : List Bk) (k : Nat) : List Bk := bs.take k ++ bs.drop (k + 1)

theorem l01Without_ok {H : Heap} {u : Value} {p : Int} {bs : List Bk} {k : Nat} (hu : BlocksAt H u bs) (hl : bs.length <= 1048576) (hk : k < bs.length) (Post : Value -> Heap -> Prop)
    (h : ∀ H' w, H <+: H' -> BlocksIn H.length H'.length H' w (without bs k) -> Post (sysV p w) H') :
    ACalls Tryz.prog 85 [sysV p u, .int .i64 k] H Post := by
  obtain ⟨i, o, rfl, h1, h2⟩ := hu
  refine ACalls.res ?_
  refine acalls_vc (rs := [.cell 4 26]) Tryz.func85 rfl rfl Tryz.ntmps85 rfl rfl ?_
  simp (maxSteps := 1000000) [go_sem, sysV]
  refine AWp.drawX (H.length + 2) mixed [(0, false), (1, false), (3, false), (4, false), (5, false), (6, false), (8, false), (9, false), (10, false), (11, false), (12, false), (2, true), (7, true), (13, true), (14, false), (15, false)] (by kernel_rfl) ?_
  have hw : IntKind.i64.wrap ((k : Int) + 1) = (k : Int) + 1 := i64w (by omega) (by omega)
  have hk1 : k <= bs.length := by omega
  have hk2 : k + 1 <= bs.length := by omega
  have hiH : i < H.length := by
    rcases h1 with h1 | h1
    · have := tri_length bs; rw [h1] at this; simp at this; omega
    · obtain ⟨b, hb, _⟩ := cellsAt_inv h1; exact (List.getElem?_eq_some_iff.1 hb).1
  simp (maxSteps := 1000000) [go_sem, hw, hk1, hk2, sliceV, boundV]
  refine andK_intro (by omega) (andK_intro (by omega) (andK_intro (by omega) ?_))
  have hp2 : H <+: H ++ [⟨[.int .i64 p, lv 3 i o bs.length], true, true⟩, ⟨[.int .i64 0, .slice none 0 0], true, true⟩] := List.prefix_append _ _
  have hp3 : H ++ [(⟨[.int .i64 p, lv 3 i o bs.length], true, true⟩ : Blk), ⟨[.int .i64 0, .slice none 0 0], true, true⟩] <+: H ++ [⟨[.int .i64 p, lv 3 i o bs.length], true, true⟩, ⟨[.int .i64 0, .slice none 0 0], true, true⟩, ⟨[], true, true⟩] := ⟨[⟨[], true, true⟩], by simp⟩
  have hlen2 : (H ++ [(⟨[.int .i64 p, lv 3 i o bs.length], true, true⟩ : Blk), ⟨[.int .i64 0, .slice none 0 0], true, true⟩]).length = H.length + 2 := by simp
  have hbx : (H ++ [(⟨[.int .i64 p, lv 3 i o bs.length], true, true⟩ : Blk), ⟨[.int .i64 0, .slice none 0 0], true, true⟩])[H.length + 1]? = some ⟨[.int .i64 0, .slice none 0 0], true, true⟩ := by simp
  have he0 : OE 3 (H.length + 2) (H ++ [(⟨[.int .i64 p, lv 3 i o bs.length], true, true⟩ : Blk), ⟨[.int .i64 0, .slice none 0 0], true, true⟩, ⟨[], true, true⟩]) (.slice (some ⟨H.length + 2, 0, none⟩) 0 0) [] 0 := OE.empty (Nat.le_refl _) (by simp)
  generalize H ++ [(⟨[.int .i64 p, lv 3 i o bs.length], true, true⟩ : Blk), ⟨[.int .i64 0, .slice none 0 0], true, true⟩, ⟨[], true, true⟩] = H3 at hp3 he0 ⊢
  generalize H ++ [(⟨[.int .i64 p, lv 3 i o bs.length], true, true⟩ : Blk), ⟨[.int .i64 0, .slice none 0 0], true, true⟩] = H2 at hp2 hp3 hlen2 hbx ⊢
  have hlen3 := hp3.length_le
  refine andK_intro (KeepL.of_prefix hp3 (by omega)) ?_
  have hs1 := ((h1.take_tri k hk1).pre (hp2.trans hp3)).src (n := k) (s := some 3) (by rw [tri_length, List.length_take, Nat.min_eq_left hk1]) (by omega) k
  have hs2 := ((h1.drop_tri (k + 1) hk2).pre hp2).src (n := bs.length - (k + 1)) (s := some 3) (by rw [tri_length, List.length_drop]) (by omega) (bs.length - (k + 1))
  obtain ⟨v4, H4, hap4, he4, hk4, hlen4⟩ := he0.append (m := k) (news := tri (bs.take k)) (by omega) (by omega) (by rw [tri_length, List.length_take, Nat.min_eq_left hk1])
  simp only [Nat.zero_add, List.nil_append] at he4
  obtain ⟨a4, rfl⟩ := he4.shape
  have hp24 : H2 <+: H4 := KeepL.prefix hp3 (by omega) hk4 (by omega)
  have hs2' := ((h1.drop_tri (k + 1) hk2).pre (hp2.trans hp24)).src (n := bs.length - (k + 1)) (s := some 3) (by rw [tri_length, List.length_drop]) (by omega) (bs.length - (k + 1))
  obtain ⟨v5, H5, hap5, he5, hk5, hlen5⟩ := he4.append (m := bs.length - (k + 1)) (news := tri (bs.drop (k + 1))) (by omega) (by omega) (by rw [tri_length, List.length_drop])
  obtain ⟨a5, rfl⟩ := he5.shape
  have hp25 : H2 <+: H5 := KeepL.prefix hp24 (by omega) hk5 (by omega)
  simp only [srcCells] at hs1 hs2'
  simp (maxSteps := 1000000) [go_sem, hs1, hap4]
  refine andK_intro (by omega) (andK_intro hk4 ?_)
  simp (maxSteps := 1000000) [go_sem, hs2', hap5]
  refine andK_intro (by omega) (andK_intro hk5 ?_)
  have hb5 := pget hp25 hbx
  have hst : storeAt H5 (H.length + 1) 0 [.int .i64 p, .slice a5 (k + (bs.length - (k + 1))) (k + (bs.length - (k + 1)))] = some (H5.set (H.length + 1) ⟨[.int .i64 p, .slice a5 (k + (bs.length - (k + 1))) (k + (bs.length - (k + 1)))], true, true⟩) := by
    rw [storeAt_of hb5 rfl rfl (by simp) (by simp [Value.oneCell'])]
    simp [over]
  have hld : cellsAt (H5.set (H.length + 1) ⟨[.int .i64 p, .slice a5 (k + (bs.length - (k + 1))) (k + (bs.length - (k + 1)))], true, true⟩) (H.length + 1) 0 2 = some [.int .i64 p, .slice a5 (k + (bs.length - (k + 1))) (k + (bs.length - (k + 1)))] := by
    have := Holds.cells (n := 2) (o := 0) (H := H5.set (H.length + 1) ⟨[.int .i64 p, .slice a5 (k + (bs.length - (k + 1))) (k + (bs.length - (k + 1)))], true, true⟩) ⟨true, List.getElem?_set_self (List.getElem?_eq_some_iff.1 hb5).1⟩ (by simp)
    simpa using this
  simp (maxSteps := 1000000) [go_sem, hst, hld]
  have hlen : (without bs k).length = k + (bs.length - (k + 1)) := by simp only [without, List.length_append, List.length_take, List.length_drop]; omega
  have he6 : OE 3 (H.length + 2) H5 (.slice a5 (k + (bs.length - (k + 1))) (k + (bs.length - (k + 1)))) (tri (without bs k)) (without bs k).length := by
    rw [hlen, without, tri_append]; exact he5
  have hs6 : Same (fun j => j = H.length + 1) H5 (H5.set (H.length + 1) ⟨[.int .i64 p, .slice a5 (k + (bs.length - (k + 1))) (k + (bs.length - (k + 1)))], true, true⟩) := Same.set
  obtain ⟨w, hup, hw⟩ := (he6.keep hs6 (by intro j hj he; omega)).blocks (by omega)
  exact ⟨sysV p w, Up.agg ⟨Up.refl _ _, hup, trivial⟩, h _ w (((Same.of_prefix (hp2.trans hp25)).trans hs6).prefix (by intro j hj he; omega)) (hw.wider (by omega))⟩

noncomputable def rTake (p : Int) (bs : List Bk) (i : Int) : (Int × List Bk) × Int :=
  if sysB p bs then (if inP bs.length i then ((p, without bs i.toNat), 0) else ((0, []), 2)) else ((0, []), 1)

theorem zeroSys {H : Heap} : Up H (.agg #[.int .i64 0, .slice none 0 0]) (sysV 0 (lv 3 0 0 0)) := Up.agg ⟨Up.refl _ _, Up.nil _ _ _ _, trivial⟩

end Go.Proofs.YtfnegaedkomcgaaGreat
end

section
namespace Go.Proofs.YtfnegaedkomcgaaGreat
open Go.Ab

theorem specTakeBlock_ok {H : Heap} {u : Value} {p k : Int} {bs : List Bk} (hu : BlocksAt H u bs) (hl : bs.length <= 1048576) (hk : In64 k) (Post : Value -> Heap -> Prop)
    (h : ∀ H' w, H <+: H' -> BlocksIn H.length H'.length H' w (rTake p bs k).1.2 -> Post (.tuple #[sysV (rTake p bs k).1.1 w, .int .i64 (rTake p bs k).2]) H') :
    ACalls Tryz.prog 29 [sysV p u, .int .i64 k] H Post := by
  refine ACalls.res ?_
  refine acalls_vc (rs := [.cell 4 26, .tmp 5]) Tryz.func29 rfl rfl Tryz.ntmps29 rfl rfl ?_
  simp (maxSteps := 1000000) [go_sem, sysV, hu.one]
  have hp0 : H <+: H ++ [⟨[.int .i64 p, u], true, true⟩, ⟨[.int .i64 0, .slice none 0 0], true, true⟩] := List.prefix_append _ _
  have hx0 : Holds (H ++ [⟨[.int .i64 p, u], true, true⟩, ⟨[.int .i64 0, .slice none 0 0], true, true⟩]) H.length [.int .i64 p, u] := ⟨true, by simp⟩
  have hb0 : (H ++ [(⟨[.int .i64 p, u], true, true⟩ : Blk), ⟨[.int .i64 0, .slice none 0 0], true, true⟩])[H.length + 1]? = some ⟨[.int .i64 0, .slice none 0 0], true, true⟩ := by simp
  have hlen0 : (H ++ [(⟨[.int .i64 p, u], true, true⟩ : Blk), ⟨[.int .i64 0, .slice none 0 0], true, true⟩]).length = H.length + 2 := by simp
  generalize H ++ [(⟨[.int .i64 p, u], true, true⟩ : Blk), ⟨[.int .i64 0, .slice none 0 0], true, true⟩] = H0 at hp0 hx0 hb0 hlen0 ⊢
  have put : ∀ (H' : Heap) (cs : List Value), H0 <+: H' -> cs.length = 2 -> cs.all Value.oneCell' = true -> storeAt H' (H.length + 1) 0 cs = some (H'.set (H.length + 1) ⟨cs, true, true⟩) /\ cellsAt (H'.set (H.length + 1) ⟨cs, true, true⟩) (H.length + 1) 0 2 = some cs /\ H <+: H'.set (H.length + 1) ⟨cs, true, true⟩ := by
    intro H' cs hp hcl ho
    have hb' := pget hp hb0
    refine ⟨?_, ?_, (show Same (fun j => j = H.length + 1) H _ from (Same.of_prefix (hp0.trans hp)).trans Same.set).prefix (by intro j hj he; omega)⟩
    · rw [storeAt_of hb' rfl rfl (by simp [hcl]) ho]
      match cs, hcl with
      | [x, y], _ => simp [over]
    · have := Holds.cells (n := 2) (o := 0) (H := H'.set (H.length + 1) ⟨cs, true, true⟩) ⟨true, List.getElem?_set_self (List.getElem?_eq_some_iff.1 hb').1⟩ (by omega)
      rw [this, List.drop_zero, List.take_of_length_le (by omega)]
  have bad : ∀ (H' : Heap) (c : Int), H <+: H' -> rTake p bs k = ((0, []), c) -> ∃ v', Up H' (.tuple #[.agg #[.int .i64 0, .slice none 0 0], .int .i64 c]) v' /\ Post v' H' := by
    intro H' c hp hr
    refine ⟨_, Up.tuple (ys := #[sysV 0 (lv 3 0 0 0), .int .i64 c]) ⟨zeroSys, Up.refl _ _, trivial⟩, ?_⟩
    have := h H' (lv 3 0 0 0) hp (by rw [hr]; exact BlocksIn.nil _ _ _)
    rwa [hr] at this
  refine l01Is' (hu.pre hp0) hl _ ?_
  intro H1 hp1
  obtain ⟨d0, d1, d2⟩ := (hx0.pre hp1).sys
  cases hs : sysB p bs with
  | false =>
    obtain ⟨q1, q2, q3⟩ := put H1 [.int .i64 0, .slice none 0 0] hp1 rfl rfl
    simp (maxSteps := 1000000) [go_sem, q1, q2]
    exact bad _ 1 q3 (by simp [rTake, hs])
  | true =>
    have hlenb : u.oneCell' = true := hu.one
    obtain ⟨i, o, rfl, h1, h2⟩ := hu
    have hw : IntKind.i64.wrap ((bs.length : Int) - 1) = (bs.length : Int) - 1 := i64w (by omega) (by omega)
    simp (maxSteps := 1000000) [go_sem, d2, hw]
    refine l01In_ok _ ?_
    cases hin : inP bs.length k with
    | false =>
      have hin' := hin
      unfold inP at hin'
      rw [hin']
      obtain ⟨q1, q2, q3⟩ := put H1 [.int .i64 0, .slice none 0 0] hp1 rfl rfl
      simp (maxSteps := 1000000) [go_sem, q1, q2]
      exact bad _ 2 q3 (by simp [rTake, hs, hin])
    | true =>
      have hin' := hin
      unfold inP at hin'
      rw [hin']
      rw [inP_iff] at hin
      obtain ⟨n, rfl⟩ : ∃ n : Nat, k = n := ⟨k.toNat, by omega⟩
      simp (maxSteps := 1000000) [go_sem, d0]
      refine l01Without_ok ⟨i, o, rfl, h1.pre (hp0.trans hp1), h2⟩ hl (by omega) _ ?_
      intro H2 w hp2 hw2
      obtain ⟨q1, q2, q3⟩ := put H2 [.int .i64 p, w] (hp1.trans hp2) rfl (by simp [one_int, hw2.one])
      simp (maxSteps := 1000000) [go_sem, sysV, q1, q2]
      have hr : rTake p bs n = ((p, without bs n), 0) := by
        have : inP bs.length n = true := by rw [inP_iff]; exact hin
        simp [rTake, hs, this]
      have hl1 := hp1.length_le
      have := h _ w q3 (by rw [hr]; exact (hw2.keep (H' := H2.set (H.length + 1) ⟨[.int .i64 p, w], true, true⟩) Same.set (by rintro j ⟨h3, h4⟩ he; omega)).wider (by omega) |> (by simpa using ·))
      rw [hr] at this
      exact ⟨_, Up.refl _ _, this⟩

theorem isNumber_ok {H : Heap} {u : Value} {p x : Int} {bs : List Bk} (hu : BlocksAt H u bs) (Post : Value -> Heap -> Prop) (h : ∀ H', H <+: H' -> Post (.bool (inP bs.length x)) H') :
    ACalls Tryz.prog 75 [sysV p u, .int .i64 x] H Post := by
  obtain ⟨i, o, rfl, h1, h2⟩ := hu
  refine acalls_vc (rs := [.tmp 4]) Tryz.func75 rfl rfl Tryz.ntmps75 rfl rfl ?_
  have hw : IntKind.i64.wrap ((bs.length : Int) - 1) = (bs.length : Int) - 1 := i64w (by omega) (by omega)
  simp (maxSteps := 1000000) [go_sem, sysV, hw]
  refine within_ok _ ?_
  simp (maxSteps := 1000000) [go_sem]
  exact h _ (List.prefix_append _ _)

theorem growB_ok {H : Heap} {n : Nat} (hn : n <= 1048576) (Post : Value -> Heap -> Prop) (h : ∀ H' v, H <+: H' -> OE 3 H.length H' v [] 0 -> Post v H') :
    ACalls Tryz.prog 114 [.slice none 0 0, .int .i64 n] H Post := by
  refine acalls_vc (rs := [.tmp 4]) Tryz.func114 rfl rfl Tryz.ntmps114 rfl rfl ?_
  have hw : IntKind.i64.wrap (n : Int) = n := i64w (by omega) (by omega)
  have hneg : decide ((n : Int) < 0) = false := by simp
  by_cases h0 : n = 0
  · subst h0
    simp (maxSteps := 1000000) [go_sem, i64w (n := 0)]
    exact h H _ (List.prefix_refl _) (OE.nil _ _ _)
  · have hpos : 0 < n := by omega
    have hw0 : IntKind.i64.wrap 0 = 0 := i64w (by omega) (by omega)
    simp (maxSteps := 1000000) [go_sem, hw, hw0, hneg, hpos, sliceV, boundV, lenV]
    refine andK_intro (by omega) ?_
    refine h _ _ (List.prefix_append _ _) ⟨by simp, .inr (.inr ⟨H.length, Nat.le_refl _, rfl, .inl ⟨rfl, .inr ?_⟩⟩)⟩
    simp [ownAt]

theorem concatB_ok {H : Heap} {oi oo : Nat} {vs : List Value} {bss : List (List Bk)} (hat : At H oi oo vs) (hl : vs.length = bss.length) (hb : ∀ (k : Nat) (v : Value) (bs : List Bk), vs[k]? = some v -> bss[k]? = some bs -> BlocksAt H v bs)
    (hsz : bss.flatten.length <= 1048576) (hn : bss.length <= 1048576) (Post : Value -> Heap -> Prop) (h : ∀ H' w, H <+: H' -> BlocksIn H.length H'.length H' w bss.flatten -> Post w H') :
    ACalls Tryz.prog 76 [lv 1 oi oo bss.length] H Post := by
  refine ACalls.res ?_
  refine acalls_vc (rs := [.tmp 2]) Tryz.func76 rfl rfl Tryz.ntmps76 rfl rfl ?_
  simp (maxSteps := 1000000) [go_sem]
  have hpart : ∀ s, (bss.take s).flatten.length <= bss.flatten.length := by
    intro s
    conv => rhs; rw [<- List.take_append_drop s bss, List.flatten_append, List.length_append]
    omega
  have hsucc : ∀ {s : Nat} {bs : List Bk}, bss[s]? = some bs -> (bss.take (s + 1)).flatten = (bss.take s).flatten ++ bs := by
    intro s bs hx
    obtain ⟨hlt, rfl⟩ := List.getElem?_eq_some_iff.1 hx
    rw [List.take_succ_eq_append_getElem hlt, List.flatten_append]; simp
  refine AWp.loopVc (fun s : Nat => [(0, lv 1 oi oo bss.length), (3, .int .i64 (bss.take s).flatten.length), (9, lv 1 oi oo bss.length), (10, .int .i64 bss.length), (11, .int .i64 s)])
    (fun s H' => s <= bss.length /\ H' = H) (fun s => bss.length - s) 0 ?_ ?_ ?_
  · simp [upF, Fr.get, Up.refl]
  · simp
  · rintro K s H' ⟨hs, rfl⟩ hK
    by_cases hlt : s < bss.length
    · have hx : bss[s]? = some bss[s] := List.getElem?_eq_getElem hlt
      have hv : vs[s]? = some (vs[s]'(by omega)) := List.getElem?_eq_getElem _
      have c1 := hat.cell hv
      obtain ⟨i, o, he, h1, h2⟩ := hb s _ _ hv hx
      rw [he] at c1
      have hw_s : IntKind.i64.wrap ((s : Int) + 1) = (s : Int) + 1 := i64w (by omega) (by omega)
      have hsn := hsucc hx
      have h3 := hpart (s + 1)
      rw [hsn, List.length_append] at h3
      obtain ⟨T, hT⟩ : ∃ T, T = (bss.take s).flatten.length := ⟨_, rfl⟩
      rw [<- hT] at h3
      have hw2 : IntKind.i64.wrap ((T : Int) + (bss[s].length : Int)) = ((T + bss[s].length : Nat) : Int) := by rw [i64w (by omega) (by omega)]; omega
      have hneg : decide (((T + bss[s].length : Nat) : Int) < 0) = false := by simp only [decide_eq_false_iff_not]; omega
      rw [<- hT]
      simp (maxSteps := 1000000) only [Int.natCast_add] at hw2 hneg
      simp (maxSteps := 1000000) [go_sem, hlt, c1, hw_s, hw2, hneg]
      refine hK (s + 1) _ _ (by omega) ?_ ⟨by omega, rfl⟩
      have e : (((bss.take (s + 1)).flatten.length : Nat) : Int) = (T : Int) + (bss[s].length : Int) := by rw [hsn, List.length_append, hT]; omega
      simp only [upF, Fr.get]
      refine ⟨⟨_, rfl, Up.refl _ _⟩, ⟨_, rfl, ?_⟩, ⟨_, rfl, Up.refl _ _⟩, ⟨_, rfl, Up.refl _ _⟩, ⟨_, rfl, Up.refl _ _⟩, trivial⟩
      rw [e]; exact Up.refl _ _
    · have : s = bss.length := by omega
      subst this
      simp (maxSteps := 1000000) [go_sem, -List.length_flatten]
      refine growB_ok hsz _ ?_
      intro H1 v0 hp1 he1
      simp (maxSteps := 1000000) [go_sem]
      refine AWp.loopVc (St := Nat × Value) (fun s => [(6, s.2), (25, lv 1 oi oo bss.length), (26, .int .i64 bss.length), (27, .int .i64 s.1)])
        (fun s H2 => s.1 <= bss.length /\ H' <+: H2 /\ OE 3 H'.length H2 s.2 (tri (bss.take s.1).flatten) (bss.take s.1).flatten.length) (fun s => bss.length - s.1) (0, v0) ?_ ?_ ?_
      · simp [upF, Fr.get, Up.refl]
      · exact ⟨by simp, hp1, by simpa [tri] using he1⟩
      · rintro K2 ⟨s, v⟩ H2 ⟨hs2, hp2, he2⟩ hK2
        simp only at hs2 he2
        by_cases hlt2 : s < bss.length
        · have hx : bss[s]? = some bss[s] := List.getElem?_eq_getElem hlt2
          have hv : vs[s]? = some (vs[s]'(by omega)) := List.getElem?_eq_getElem _
          have c1 := (hat.pre hp2).cell hv
          obtain ⟨i, o, he, h1, h2⟩ := hb s _ _ hv hx
          rw [he] at c1
          have hw_s : IntKind.i64.wrap ((s : Int) + 1) = (s : Int) + 1 := i64w (by omega) (by omega)
          have hsn := hsucc hx
          have h3 := hpart (s + 1)
          rw [hsn, List.length_append] at h3
          have hsrc := (h1.pre hp2).src (n := bss[s].length) (s := some 3) (tri_length _) (by omega) bss[s].length
          simp only [srcCells] at hsrc
          obtain ⟨v3, H3, hap, he3, hk3, hl3⟩ := he2.append (m := bss[s].length) (news := tri bss[s]) (by omega) hp2.length_le (tri_length _)
          obtain ⟨a2, rfl⟩ := he2.shape
          generalize hT : (bss.take s).flatten.length = T at *
          generalize hm : (bss[s]).length = m at c1 hsrc hap h3 h2
          simp (maxSteps := 1000000) [go_sem, hlt2, c1, hw_s, hsrc, hap]
          refine andK_intro (by omega) (hK2 (s + 1, v3) _ _ (by simp only; omega) (by simp [upF, Fr.get, Up.refl]) ⟨by simp only; omega, KeepL.prefix hp2 (Nat.le_refl _) hk3 hl3, ?_⟩)
          simp only [hsn]
          rw [tri_append, List.length_append, hT, hm]
          rw [hm] at he3
          exact he3
        · have : s = bss.length := by omega
          subst this
          simp (maxSteps := 1000000) [go_sem]
          rw [List.take_length] at he2
          obtain ⟨w, hup, hw⟩ := he2.blocks (by omega)
          exact ⟨w, hup, h _ w hp2 hw⟩

theorem implTakeBlock_ok {H : Heap} {u : Value} {p k : Int} {bs : List Bk} (hu : BlocksAt H u bs) (hl : bs.length <= 1048576) (hk : In64 k) (Post : Value -> Heap -> Prop)
    (h : ∀ H' w, H <+: H' -> BlocksIn H.length H'.length H' w (rTake p bs k).1.2 -> Post (.tuple #[sysV (rTake p bs k).1.1 w, .int .i64 (rTake p bs k).2]) H') :
    ACalls Tryz.prog 20 [sysV p u, .int .i64 k] H Post := by
  refine ACalls.res ?_
  refine acalls_vc (rs := [.cell 4 26, .tmp 5]) Tryz.func20 rfl rfl Tryz.ntmps20 rfl rfl ?_
  simp (maxSteps := 1000000) [go_sem, sysV, hu.one]
  have hp0 : H <+: H ++ [⟨[.int .i64 p, u], true, true⟩, ⟨[.int .i64 0, .slice none 0 0], true, true⟩] := List.prefix_append _ _
  have hx0 : Holds (H ++ [⟨[.int .i64 p, u], true, true⟩, ⟨[.int .i64 0, .slice none 0 0], true, true⟩]) H.length [.int .i64 p, u] := ⟨true, by simp⟩
  have hb0 : (H ++ [(⟨[.int .i64 p, u], true, true⟩ : Blk), ⟨[.int .i64 0, .slice none 0 0], true, true⟩])[H.length + 1]? = some ⟨[.int .i64 0, .slice none 0 0], true, true⟩ := by simp
  have hlen0 : (H ++ [(⟨[.int .i64 p, u], true, true⟩ : Blk), ⟨[.int .i64 0, .slice none 0 0], true, true⟩]).length = H.length + 2 := by simp
  generalize H ++ [(⟨[.int .i64 p, u], true, true⟩ : Blk), ⟨[.int .i64 0, .slice none 0 0], true, true⟩] = H0 at hp0 hx0 hb0 hlen0 ⊢
  have put : ∀ (H' : Heap) (cs : List Value), H0 <+: H' -> cs.length = 2 -> cs.all Value.oneCell' = true -> storeAt H' (H.length + 1) 0 cs = some (H'.set (H.length + 1) ⟨cs, true, true⟩) /\ cellsAt (H'.set (H.length + 1) ⟨cs, true, true⟩) (H.length + 1) 0 2 = some cs /\ H <+: H'.set (H.length + 1) ⟨cs, true, true⟩ := by
    intro H' cs hp hcl ho
    have hb' := pget hp hb0
    refine ⟨?_, ?_, (show Same (fun j => j = H.length + 1) H _ from (Same.of_prefix (hp0.trans hp)).trans Same.set).prefix (by intro j hj he; omega)⟩
    · rw [storeAt_of hb' rfl rfl (by simp [hcl]) ho]
      match cs, hcl with
      | [x, y], _ => simp [over]
    · have := Holds.cells (n := 2) (o := 0) (H := H'.set (H.length + 1) ⟨cs, true, true⟩) ⟨true, List.getElem?_set_self (List.getElem?_eq_some_iff.1 hb').1⟩ (by omega)
      rw [this, List.drop_zero, List.take_of_length_le (by omega)]
  have bad : ∀ (H' : Heap) (c : Int), H <+: H' -> rTake p bs k = ((0, []), c) -> ∃ v', Up H' (.tuple #[.agg #[.int .i64 0, .slice none 0 0], .int .i64 c]) v' /\ Post v' H' := by
    intro H' c hp hr
    refine ⟨_, Up.tuple (ys := #[sysV 0 (lv 3 0 0 0), .int .i64 c]) ⟨zeroSys, Up.refl _ _, trivial⟩, ?_⟩
    have := h H' (lv 3 0 0 0) hp (by rw [hr]; exact BlocksIn.nil _ _ _)
    rwa [hr] at this
  refine implIsSys (hu.pre hp0) _ ?_
  intro H1 hp1
  obtain ⟨d0, d1, d2⟩ := (hx0.pre hp1).sys
  cases hs : sysB p bs with
  | false =>
    obtain ⟨q1, q2, q3⟩ := put H1 [.int .i64 0, .slice none 0 0] hp1 rfl rfl
    simp (maxSteps := 1000000) [go_sem, q1, q2]
    exact bad _ 1 q3 (by simp [rTake, hs])
  | true =>
    simp (maxSteps := 1000000) [go_sem, d0]
    refine isNumber_ok (hu.pre (hp0.trans hp1)) _ ?_
    intro H2 hp2
    have hp12 := hp1.trans hp2
    obtain ⟨d0, d1, d2⟩ := (hx0.pre hp12).sys
    cases hin : inP bs.length k with
    | false =>
      obtain ⟨q1, q2, q3⟩ := put H2 [.int .i64 0, .slice none 0 0] hp12 rfl rfl
      simp (maxSteps := 1000000) [go_sem, q1, q2]
      exact bad _ 2 q3 (by simp [rTake, hs, hin])
    | true =>
      have hr : rTake p bs k = ((p, without bs k.toNat), 0) := by simp [rTake, hs, hin]
      rw [inP_iff] at hin
      obtain ⟨n, rfl⟩ : ∃ n : Nat, k = n := ⟨k.toNat, by omega⟩
      rw [Int.toNat_natCast] at hr
      obtain ⟨i, o, rfl, h1, h2⟩ := hu
      have hw : IntKind.i64.wrap ((n : Int) + 1) = (n : Int) + 1 := i64w (by omega) (by omega)
      have hk1 : n <= bs.length := by omega
      have hk2 : n + 1 <= bs.length := by omega
      simp (maxSteps := 1000000) [go_sem]
      refine AWp.draw mixed [(0, false), (1, false), (2, false), (3, false), (4, false), (5, false), (6, false), (7, false), (8, false), (9, false), (10, false), (11, true), (12, true), (13, false), (14, false), (15, false)] (by kernel_rfl) ?_
      simp (maxSteps := 1000000) [go_sem, d1, d2, hw, hk1, hk2, sliceV, boundV]
      refine andK_intro (by omega) ?_
      have hp3 : H2 <+: H2 ++ [⟨[lv 3 i o n, lv 3 i (o + (n + 1) * 3) (bs.length - (n + 1))], true, true⟩] := List.prefix_append _ _
      have hat : At (H2 ++ [⟨[lv 3 i o n, lv 3 i (o + (n + 1) * 3) (bs.length - (n + 1))], true, true⟩]) H2.length 0 [lv 3 i o n, lv 3 i (o + (n + 1) * 3) (bs.length - (n + 1))] := Holds.at (Holds.last H2 _)
      have hlen3 : (H2 ++ [(⟨[lv 3 i o n, lv 3 i (o + (n + 1) * 3) (bs.length - (n + 1))], true, true⟩ : Blk)]).length = H2.length + 1 := by simp
      refine ACalls.up (args' := [lv 1 H2.length 0 2]) ⟨Up.ex (by omega) (.inr (by simp [go_sem])), trivial⟩ ?_
      generalize H2 ++ [(⟨[lv 3 i o n, lv 3 i (o + (n + 1) * 3) (bs.length - (n + 1))], true, true⟩ : Blk)] = H3 at hp3 hat hlen3 ⊢
      have hp03 := hp0.trans (hp12.trans hp3)
      have b1 : BlocksAt H3 (lv 3 i o n) (bs.take n) := ⟨i, o, by rw [List.length_take, Nat.min_eq_left hk1], (h1.take_tri n hk1).pre hp03, by rw [List.length_take]; omega⟩
      have b2 : BlocksAt H3 (lv 3 i (o + (n + 1) * 3) (bs.length - (n + 1))) (bs.drop (n + 1)) := ⟨i, o + (n + 1) * 3, by rw [List.length_drop], (h1.drop_tri (n + 1) hk2).pre hp03, by rw [List.length_drop]; omega⟩
      have hfl : [bs.take n, bs.drop (n + 1)].flatten = without bs n := by simp [without]
      have hwl : (without bs n).length <= bs.length := by simp only [without, List.length_append, List.length_take, List.length_drop]; omega
      refine concatB_ok (bss := [bs.take n, bs.drop (n + 1)]) hat rfl ?_ (by rw [hfl]; omega) (by simp) _ ?_
      · intro j v cs hv hc
        match j with
        | 0 => simp at hv hc; subst hv; subst hc; exact b1
        | 1 => simp at hv hc; subst hv; subst hc; exact b2
        | j + 2 => simp at hv
      intro H4 w hp4 hw4
      rw [hfl] at hw4
      have hp34 := hp3.trans hp4
      obtain ⟨q1, q2, q3⟩ := put H4 [.int .i64 p, w] (hp12.trans hp34) rfl (by simp [one_int, hw4.one])
      have hbuilt : Tryz.prog.built 26 [(0, .int .i64 p), (1, w)] = some #[.int .i64 p, w] := by
        obtain ⟨i', o', he, _⟩ := hw4.read
        rw [he]; simp [go_sem]
      simp (maxSteps := 1000000) [go_sem, hp34, hbuilt, q1, q2]
      have hl1 := hp1.length_le; have hl2 := hp2.length_le; have hl3 := hp3.length_le
      have hs6 : Same (fun j => j = H.length + 1) H4 (H4.set (H.length + 1) ⟨[.int .i64 p, w], true, true⟩) := Same.set
      have hw5 := (hw4.keep hs6 (by rintro j ⟨h3, h4⟩ he; omega)).wider (c := H.length) (by omega)
      have := h _ w q3 (by rw [hr]; simpa using hw5)
      rw [hr] at this
      exact andK_intro hp4 ⟨_, Up.refl _ _, this⟩

end Go.Proofs.YtfnegaedkomcgaaGreat
end
