/- The grid of third points: what the program's functions on it compute. -/
import Derived.Test.YtkgjdmbmdnmilaaImplSys
import Derived.Test.YtkgjdmbmdnmilaaGridLaw
set_option linter.all false
set_option maxRecDepth 20000
namespace Go.Proofs.Ytkgjdmbmdnmilaa
open Go.Ab

/-- The grid behind an id. -/
def GridAt (H : Heap) (id : Nat) (gs : List Int) : Prop := H[id]? = some ⟨ints gs, true, true⟩ ∧ gs.length = 225

theorem GridAt.load {H : Heap} {id : Nat} {gs : List Int} (h : GridAt H id gs) {k : Nat} (hk : k < 225) : cellsAt H id k 1 = some [.int .i64 (gs.getD k 0)] := by
  refine Holds.cell ⟨true, h.1⟩ ?_
  have := h.2
  rw [ints_get, List.getD_eq_getElem?_getD, List.getElem?_eq_getElem (by omega)]
  rfl

theorem GridAt.store {H : Heap} {id : Nat} {gs : List Int} (h : GridAt H id gs) {k : Nat} (hk : k < 225) (n : Int) :
    storeAt H id k [.int .i64 n] = some (H.set id ⟨ints (gs.set k n), true, true⟩) ∧ GridAt (H.set id ⟨ints (gs.set k n), true, true⟩) id (gs.set k n) := by
  have hl := h.2
  refine ⟨?_, by rw [List.getElem?_set_self (List.getElem?_eq_some_iff.1 h.1).1], by simpa using hl⟩
  rw [storeAt_of h.1 rfl rfl (by simp only [ints_length, List.length_singleton]; omega) (by simp [Value.oneCell']), over_one (by simp only [ints_length]; omega), ints_set]

theorem newGrid_ok {H : Heap} (Post : Value → Heap → Prop) (h : ∀ H' id, H <+: H' → H.length ≤ id → GridAt H' id (List.replicate 225 (-1)) → Post (.pointer (some ⟨id, 0, none⟩)) H') :
    ACalls Try.prog 196 [] H Post := by
  refine acalls_vc (rs := [.tmp 0]) Try.func196 rfl rfl Try.ntmps196 rfl rfl ?_
  simp (maxSteps := 1000000) [go_sem, -List.reduceReplicate]
  have hz : List.replicate 225 (Value.int .i64 0) = ints (List.replicate 225 0) := by simp only [ints, List.map_replicate]
  rw [hz]
  have hg0 : GridAt (H ++ [⟨ints (List.replicate 225 0), true, true⟩]) H.length (List.replicate 225 0) := ⟨by simp only [List.getElem?_concat_length], List.length_replicate⟩
  have hp0 : H <+: H ++ [⟨ints (List.replicate 225 0), true, true⟩] := List.prefix_append _ _
  generalize H ++ [⟨ints (List.replicate 225 0), true, true⟩] = H1 at hg0 hp0 ⊢
  have hset : ∀ m, m < 225 → (List.replicate m (-1 : Int) ++ List.replicate (225 - m) 0).set m (-1) = List.replicate (m + 1) (-1) ++ List.replicate (225 - (m + 1)) 0 := by
    intro m hm
    rw [List.set_append_right _ _ (by rw [List.length_replicate]; exact Nat.le_refl _), List.length_replicate, Nat.sub_self, show 225 - m = (225 - (m + 1)) + 1 by omega, List.replicate_succ, List.set_cons_zero, ← List.replicate_append_replicate, List.append_assoc]
    rfl
  have keep : ∀ {H' : Heap} {b : Blk}, H <+: H' → H <+: H'.set H.length b := fun hp =>
    (show Same (fun j => j = H.length) H _ from (Same.of_prefix hp).trans Same.set).prefix (by omega)
  refine AWp.loopVc (fun s : Nat => [(1, .pointer (some ⟨H.length, 0, none⟩)), (4, .int .i64 s)])
    (fun s H' => s ≤ 15 ∧ H <+: H' ∧ GridAt H' H.length (List.replicate (s * 15) (-1) ++ List.replicate (225 - s * 15) 0)) (fun s => 15 - s) 0 ?_ ?_ ?_
  · simp [upF, Fr.get, Up.refl]
  · exact ⟨by omega, hp0, by simpa only [Nat.zero_mul, List.replicate_zero, List.nil_append, Nat.sub_zero] using hg0⟩
  · rintro K s H' ⟨hs, hp, hg⟩ hK
    by_cases hlt : s < 15
    · have hlt' : (s : Int) < 15 := by omega
      simp (maxSteps := 1000000) [go_sem, hlt, hlt']
      refine AWp.loopVc (fun t : Nat => [(1, .pointer (some ⟨H.length, 0, none⟩)), (2, .int .i64 s), (4, .int .i64 s), (7, .int .i64 t)])
        (fun t H2 => t ≤ 15 ∧ H <+: H2 ∧ GridAt H2 H.length (List.replicate (s * 15 + t) (-1) ++ List.replicate (225 - (s * 15 + t)) 0)) (fun t => 15 - t) 0 ?_ ?_ ?_
      · simp [upF, Fr.get, Up.refl]
      · exact ⟨by omega, hp, by simpa only [Nat.add_zero] using hg⟩
      · rintro K2 t H2 ⟨ht, hp2, hg2⟩ hK2
        by_cases htl : t < 15
        · have htl' : (t : Int) < 15 := by omega
          have hw : IntKind.i64.wrap ((t : Int) + 1) = (t : Int) + 1 := i64w (by omega) (by omega)
          obtain ⟨hst, hg3⟩ := hg2.store (k := s * 15 + t) (by omega) (-1)
          rw [hset _ (by omega)] at hst hg3
          rw [show 225 - (s * 15 + t + 1) = 224 - (s * 15 + t) by omega] at hst hg3
          simp (maxSteps := 1000000) [go_sem, hlt, hlt', htl, htl', hw, Value.oneCell', hst, -List.reduceReplicate]
          exact hK2 (t + 1) _ _ (by omega) (by simp [upF, Fr.get, Up.refl]) ⟨by omega, keep hp2, by rw [show 225 - (s * 15 + (t + 1)) = 224 - (s * 15 + t) by omega]; exact hg3⟩
        · have : t = 15 := by omega
          subst this
          have hw : IntKind.i64.wrap ((s : Int) + 1) = (s : Int) + 1 := i64w (by omega) (by omega)
          simp (maxSteps := 1000000) [go_sem, hw]
          refine hK (s + 1) _ _ (by omega) (by simp [upF, Fr.get, Up.refl]) ⟨by omega, hp2, ?_⟩
          rw [Nat.add_mul, Nat.one_mul]; exact hg2
    · have : s = 15 := by omega
      subst this
      simp (maxSteps := 1000000) [go_sem]
      exact h H' H.length hp (Nat.le_refl _) (by simpa using hg)

theorem isLeft_ok {H : Heap} {id : Nat} {gs : List Int} (hg : GridAt H id gs) {a b c : Nat} (ha : a < 15) (hb : b < 15) (hc : c < 15) (Post : Value → Heap → Prop)
    (h : ∀ H', H <+: H' → Post (.bool (decide (gAt gs a b = -1) && (decide (gAt gs a c = -1) && decide (gAt gs b c = -1)))) H') :
    ACalls Try.prog 173 [.pointer (some ⟨id, 0, none⟩), (Bk.mk a b c).val] H Post := by
  refine acalls_vc (rs := [.tmp 4]) Try.func173 rfl rfl Try.ntmps173 rfl rfl ?_
  simp (maxSteps := 1000000) [go_sem, Bk.val, Value.oneCell']
  refine AWp.draw mixed [(0, false), (1, false), (2, false), (3, false), (4, false), (5, false), (6, false), (7, false), (8, false), (9, false), (10, false), (11, false), (12, false), (13, false), (14, false), (15, false), (16, false), (17, false), (18, false), (19, false), (20, false), (21, false), (22, false), (23, false), (24, false), (25, false), (26, false), (27, false), (28, false), (29, false), (30, false), (31, false), (32, false), (33, false), (34, false)] (by kernel_rfl) ?_
  have keep : GridAt (H ++ [⟨[.int .i64 a, .int .i64 b, .int .i64 c], true, true⟩]) id gs := ⟨Same.get (S := fun _ => False) (Same.of_prefix (List.prefix_append _ _)) hg.1 (fun h => h), hg.2⟩
  have h := h _ (List.prefix_append H [⟨[.int .i64 a, .int .i64 b, .int .i64 c], true, true⟩])
  have c1 : cellsAt _ id (a * 15 + b) 1 = some [.int .i64 (gAt gs a b)] := keep.load (by omega)
  have c2 : cellsAt _ id (a * 15 + c) 1 = some [.int .i64 (gAt gs a c)] := keep.load (by omega)
  have c3 : cellsAt _ id (b * 15 + c) 1 = some [.int .i64 (gAt gs b c)] := keep.load (by omega)
  generalize gAt gs a b = x at c1 h
  generalize gAt gs a c = y at c2 h
  generalize gAt gs b c = z at c3 h
  have ha' : (a : Int) < 15 := by omega
  have hb' : (b : Int) < 15 := by omega
  have hc' : (c : Int) < 15 := by omega
  by_cases hx : x = -1
  · by_cases hy : y = -1
    · by_cases hz : z = -1
      · simp (maxSteps := 1000000) [go_sem, ha, hb, hc, ha', hb', hc', c1, c2, c3, hx, hy, hz]
        simpa [hx, hy, hz] using h
      · have hz' : (z == -1) = false := by simpa using hz
        simp (maxSteps := 1000000) [go_sem, ha, hb, hc, ha', hb', hc', c1, c2, c3, hx, hy, hz']
        simpa [hx, hy, hz] using h
    · have hy' : (y == -1) = false := by simpa using hy
      simp (maxSteps := 1000000) [go_sem, ha, hb, hc, ha', hb', hc', c1, c2, c3, hx, hy']
      simpa [hx, hy] using h
  · have hx' : (x == -1) = false := by simpa using hx
    simp (maxSteps := 1000000) [go_sem, ha, hb, hc, ha', hb', hc', c1, c2, c3, hx']
    simpa [hx] using h

/-- The first s pairs of a block. -/
def gPut (is : Bool) (a b c : Nat) : Nat → List Int → List Int
  | 0, gs => gs
  | 1, gs => gSet gs a b (if is then (c : Int) else -1)
  | 2, gs => gSet (gSet gs a b (if is then (c : Int) else -1)) b c (if is then (a : Int) else -1)
  | _, gs => gSet (gSet (gSet gs a b (if is then (c : Int) else -1)) b c (if is then (a : Int) else -1)) c a (if is then (b : Int) else -1)

theorem put_ok {H : Heap} {id : Nat} {gs : List Int} {is : Bool} (hg : GridAt H id gs) {a b c : Nat} (ha : a < 15) (hb : b < 15) (hc : c < 15) (Post : Value → Heap → Prop)
    (h : ∀ H', Same (fun j => j = id) H H' → GridAt H' id (gPut is a b c 3 gs) → Post (.tuple #[]) H') :
    ACalls Try.prog 197 [.pointer (some ⟨id, 0, none⟩), (Bk.mk a b c).val, .bool is] H Post := by
  refine acalls_vc (rs := []) Try.func197 rfl rfl Try.ntmps197 rfl rfl ?_
  simp (maxSteps := 1000000) [go_sem, Bk.val, Value.oneCell']
  have hid : id < H.length := (List.getElem?_eq_some_iff.1 hg.1).1
  have ha' : (a : Int) < 15 := by omega
  have hb' : (b : Int) < 15 := by omega
  have hc' : (c : Int) < 15 := by omega
  refine AWp.loopVc (fun s : Nat => [(0, .pointer (some ⟨id, 0, none⟩)), (2, .bool is), (4, .pointer (some ⟨H.length, 0, none⟩)), (10, .agg #[.int .i64 a, .int .i64 b, .int .i64 c]), (11, .int .i64 s)])
    (fun s H' => s ≤ 3 ∧ Same (fun j => j = id) H H' ∧ H'[H.length]? = some ⟨[.int .i64 a, .int .i64 b, .int .i64 c], true, true⟩ ∧ GridAt H' id (gPut is a b c s gs)) (fun s => 3 - s) 0 ?_ ?_ ?_
  · simp [upF, Fr.get, Up.refl]
  · exact ⟨by omega, Same.of_prefix (List.prefix_append _ _), by simp, ⟨Same.get (S := fun _ => False) (Same.of_prefix (List.prefix_append _ _)) hg.1 (fun h => h), hg.2⟩⟩
  · rintro K s H' ⟨hs, hsame, hbox, hg⟩ hK
    have : s = 0 ∨ s = 1 ∨ s = 2 ∨ s = 3 := by omega
    rcases this with rfl | rfl | rfl | rfl
    · have hw : IntKind.i64.wrap 1 = 1 := i64w (by omega) (by omega)
      have hm1 : (IntKind.i64.wrap 1).tmod 3 = 1 := by rw [i64w (by omega) (by omega)]; rfl
      have hm2 : (IntKind.i64.wrap 2).tmod 3 = 2 := by rw [i64w (by omega) (by omega)]; rfl
      have hm1' : (1 : Int).tmod 3 = 1 := rfl
      have hm2' : (2 : Int).tmod 3 = 2 := rfl
      obtain ⟨st1, g1⟩ := hg.store (k := a * 15 + b) (by omega) (if is then (c : Int) else -1)
      obtain ⟨st2, g2⟩ := g1.store (k := b * 15 + a) (by omega) (if is then (c : Int) else -1)
      simp only [List.set_set] at st2 g2
      have l0 : cellsAt H' H.length 1 1 = some [.int .i64 b] := Holds.cell ⟨true, hbox⟩ rfl
      have l1 : cellsAt H' H.length 2 1 = some [.int .i64 c] := Holds.cell ⟨true, hbox⟩ rfl
      have fin : ∀ fr', upF _ [(0, .pointer (some ⟨id, 0, none⟩)), (2, .bool is), (4, .pointer (some ⟨H.length, 0, none⟩)), (10, .agg #[.int .i64 a, .int .i64 b, .int .i64 c]), (11, .int .i64 1)] fr' → K fr' _ := fun fr' hf =>
        hK 1 fr' _ (by omega) hf ⟨by omega, hsame.trans Same.set, by rw [List.getElem?_set_ne (by omega)]; exact hbox, g2⟩
      simp (maxSteps := 1000000) [go_sem, hw, partV]
      refine AWp.draw mixed [(0, false), (1, false), (2, false), (3, false), (4, false), (5, false), (6, false), (7, false), (8, false), (9, false), (10, false), (11, false)] (by kernel_rfl) ?_
      simp (maxSteps := 1000000) [go_sem, hw, hm1, hm2, hm1', hm2', l0, l1]
      refine condK_intro (fun his => ?_) (fun his => ?_)
      · obtain rfl : is = false := by simpa using his
        simp only [Bool.false_eq_true, if_false] at st1 st2 fin
        refine AWp.draw mixed [(0, false), (1, false), (2, false), (3, false), (4, false), (5, false), (6, false), (7, false), (8, false), (10, false), (11, false), (9, false), (12, false), (13, false)] (by kernel_rfl) ?_
        simp (maxSteps := 1000000) [go_sem, hw, hm1, hm2, hm1', hm2', l0, l1, st1, st2, ha', hb', hc', Value.oneCell']
        exact fin _ (by simp [upF, Fr.get, Up.refl])
      · obtain rfl : is = true := by simpa using his
        simp only [if_true] at st1 st2 fin
        refine AWp.draw mixed [(0, false), (1, false), (2, false), (3, false), (4, false), (5, false), (6, false), (7, false), (8, false), (9, false), (10, false), (12, false), (13, false), (11, false), (14, false), (15, false)] (by kernel_rfl) ?_
        simp (maxSteps := 1000000) [go_sem, hw, hm1, hm2, hm1', hm2', l0, l1, st1, st2, ha', hb', hc', Value.oneCell']
        exact fin _ (by simp [upF, Fr.get, Up.refl])
    · have hw : IntKind.i64.wrap 2 = 2 := i64w (by omega) (by omega)
      have hm1 : (IntKind.i64.wrap 2).tmod 3 = 2 := by rw [i64w (by omega) (by omega)]; rfl
      have hm2 : (IntKind.i64.wrap 3).tmod 3 = 0 := by rw [i64w (by omega) (by omega)]; rfl
      have hm1' : (2 : Int).tmod 3 = 2 := rfl
      have hm2' : (3 : Int).tmod 3 = 0 := rfl
      obtain ⟨st1, g1⟩ := hg.store (k := b * 15 + c) (by omega) (if is then (a : Int) else -1)
      obtain ⟨st2, g2⟩ := g1.store (k := c * 15 + b) (by omega) (if is then (a : Int) else -1)
      simp only [List.set_set] at st2 g2
      have l0 : cellsAt H' H.length 2 1 = some [.int .i64 c] := Holds.cell ⟨true, hbox⟩ rfl
      have l1 : cellsAt H' H.length 0 1 = some [.int .i64 a] := Holds.cell ⟨true, hbox⟩ rfl
      have fin : ∀ fr', upF _ [(0, .pointer (some ⟨id, 0, none⟩)), (2, .bool is), (4, .pointer (some ⟨H.length, 0, none⟩)), (10, .agg #[.int .i64 a, .int .i64 b, .int .i64 c]), (11, .int .i64 2)] fr' → K fr' _ := fun fr' hf =>
        hK 2 fr' _ (by omega) hf ⟨by omega, hsame.trans Same.set, by rw [List.getElem?_set_ne (by omega)]; exact hbox, g2⟩
      simp (maxSteps := 1000000) [go_sem, hw, partV]
      refine AWp.draw mixed [(0, false), (1, false), (2, false), (3, false), (4, false), (5, false), (6, false), (7, false), (8, false), (9, false), (10, false), (11, false)] (by kernel_rfl) ?_
      simp (maxSteps := 1000000) [go_sem, hw, hm1, hm2, hm1', hm2', l0, l1]
      refine condK_intro (fun his => ?_) (fun his => ?_)
      · obtain rfl : is = false := by simpa using his
        simp only [Bool.false_eq_true, if_false] at st1 st2 fin
        refine AWp.draw mixed [(0, false), (1, false), (2, false), (3, false), (4, false), (5, false), (6, false), (7, false), (8, false), (10, false), (11, false), (9, false), (12, false), (13, false)] (by kernel_rfl) ?_
        simp (maxSteps := 1000000) [go_sem, hw, hm1, hm2, hm1', hm2', l0, l1, st1, st2, ha', hb', hc', Value.oneCell']
        exact fin _ (by simp [upF, Fr.get, Up.refl])
      · obtain rfl : is = true := by simpa using his
        simp only [if_true] at st1 st2 fin
        refine AWp.draw mixed [(0, false), (1, false), (2, false), (3, false), (4, false), (5, false), (6, false), (7, false), (8, false), (9, false), (10, false), (12, false), (13, false), (11, false), (14, false), (15, false)] (by kernel_rfl) ?_
        simp (maxSteps := 1000000) [go_sem, hw, hm1, hm2, hm1', hm2', l0, l1, st1, st2, ha', hb', hc', Value.oneCell']
        exact fin _ (by simp [upF, Fr.get, Up.refl])
    · have hw : IntKind.i64.wrap 3 = 3 := i64w (by omega) (by omega)
      have hm1 : (IntKind.i64.wrap 3).tmod 3 = 0 := by rw [i64w (by omega) (by omega)]; rfl
      have hm2 : (IntKind.i64.wrap 4).tmod 3 = 1 := by rw [i64w (by omega) (by omega)]; rfl
      have hm1' : (3 : Int).tmod 3 = 0 := rfl
      have hm2' : (4 : Int).tmod 3 = 1 := rfl
      obtain ⟨st1, g1⟩ := hg.store (k := c * 15 + a) (by omega) (if is then (b : Int) else -1)
      obtain ⟨st2, g2⟩ := g1.store (k := a * 15 + c) (by omega) (if is then (b : Int) else -1)
      simp only [List.set_set] at st2 g2
      have l0 : cellsAt H' H.length 0 1 = some [.int .i64 a] := Holds.cell ⟨true, hbox⟩ rfl
      have l1 : cellsAt H' H.length 1 1 = some [.int .i64 b] := Holds.cell ⟨true, hbox⟩ rfl
      have fin : ∀ fr', upF _ [(0, .pointer (some ⟨id, 0, none⟩)), (2, .bool is), (4, .pointer (some ⟨H.length, 0, none⟩)), (10, .agg #[.int .i64 a, .int .i64 b, .int .i64 c]), (11, .int .i64 3)] fr' → K fr' _ := fun fr' hf =>
        hK 3 fr' _ (by omega) hf ⟨by omega, hsame.trans Same.set, by rw [List.getElem?_set_ne (by omega)]; exact hbox, g2⟩
      simp (maxSteps := 1000000) [go_sem, hw, partV]
      refine AWp.draw mixed [(0, false), (1, false), (2, false), (3, false), (4, false), (5, false), (6, false), (7, false), (8, false), (9, false), (10, false), (11, false)] (by kernel_rfl) ?_
      simp (maxSteps := 1000000) [go_sem, hw, hm1, hm2, hm1', hm2', l0, l1]
      refine condK_intro (fun his => ?_) (fun his => ?_)
      · obtain rfl : is = false := by simpa using his
        simp only [Bool.false_eq_true, if_false] at st1 st2 fin
        refine AWp.draw mixed [(0, false), (1, false), (2, false), (3, false), (4, false), (5, false), (6, false), (7, false), (8, false), (10, false), (11, false), (9, false), (12, false), (13, false)] (by kernel_rfl) ?_
        simp (maxSteps := 1000000) [go_sem, hw, hm1, hm2, hm1', hm2', l0, l1, st1, st2, ha', hb', hc', Value.oneCell']
        exact fin _ (by simp [upF, Fr.get, Up.refl])
      · obtain rfl : is = true := by simpa using his
        simp only [if_true] at st1 st2 fin
        refine AWp.draw mixed [(0, false), (1, false), (2, false), (3, false), (4, false), (5, false), (6, false), (7, false), (8, false), (9, false), (10, false), (12, false), (13, false), (11, false), (14, false), (15, false)] (by kernel_rfl) ?_
        simp (maxSteps := 1000000) [go_sem, hw, hm1, hm2, hm1', hm2', l0, l1, st1, st2, ha', hb', hc', Value.oneCell']
        exact fin _ (by simp [upF, Fr.get, Up.refl])
    · simp (maxSteps := 1000000) [go_sem]
      exact h H' hsame hg

end Go.Proofs.Ytkgjdmbmdnmilaa
