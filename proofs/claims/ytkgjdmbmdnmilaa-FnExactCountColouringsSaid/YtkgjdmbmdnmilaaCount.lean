/- Colourings: what the exported functions return, and the count. -/
import Derived.Test.YtkgjdmbmdnmilaaColour
import Derived.Test.YtkgjdmbmdnmilaaColourG
import Derived.Test.YtkgjdmbmdnmilaaClone
set_option linter.all false
set_option maxRecDepth 20000
set_option maxHeartbeats 4000000
namespace Go.Proofs.Ytkgjdmbmdnmilaa
open Go.Ab

theorem implIsColouring_ok {H : Heap} {u v : Value} {p k : Int} {bs : List Bk} {xs : List Int} (hu : BlocksAt H u bs) (hl : bs.length ≤ 1048576) (hk : In64 k) (hv : IntsAt H v xs) (hl' : xs.length ≤ 1048576) (hw : ∀ x ∈ xs, In64 x) (Post : Value → Heap → Prop)
    (h : ∀ H', H <+: H' → Post (.tuple #[.bool (rColouring p bs k xs false).1, .int .i64 (rColouring p bs k xs false).2]) H') : ACalls Try.prog 64 [sysV p u, .int .i64 k, v] H Post := by
  refine acalls_vc (rs := [.tmp 6, .tmp 7]) Try.func64 rfl rfl Try.ntmps64 rfl rfl ?_
  simp (maxSteps := 1000000) [go_sem, sysV, hu.one]
  have hp0 : H <+: H ++ [⟨[.int .i64 p, u], true, true⟩] := List.prefix_append _ _
  refine colouringOf_ok (hu.pre hp0) (hv.pre hp0) _ ?_
  intro H' hp
  simp (maxSteps := 1000000) [go_sem]
  exact h H' (hp0.trans hp)
theorem implIsStrict_ok {H : Heap} {u v : Value} {p k : Int} {bs : List Bk} {xs : List Int} (hu : BlocksAt H u bs) (hl : bs.length ≤ 1048576) (hk : In64 k) (hv : IntsAt H v xs) (hl' : xs.length ≤ 1048576) (hw : ∀ x ∈ xs, In64 x) (Post : Value → Heap → Prop)
    (h : ∀ H', H <+: H' → Post (.tuple #[.bool (rColouring p bs k xs true).1, .int .i64 (rColouring p bs k xs true).2]) H') : ACalls Try.prog 66 [sysV p u, .int .i64 k, v] H Post := by
  refine acalls_vc (rs := [.tmp 6, .tmp 7]) Try.func66 rfl rfl Try.ntmps66 rfl rfl ?_
  simp (maxSteps := 1000000) [go_sem, sysV, hu.one]
  have hp0 : H <+: H ++ [⟨[.int .i64 p, u], true, true⟩] := List.prefix_append _ _
  refine colouringOf_ok (hu.pre hp0) (hv.pre hp0) _ ?_
  intro H' hp
  simp (maxSteps := 1000000) [go_sem]
  exact h H' (hp0.trans hp)

theorem colCode_good {p : Int} {bs : List Bk} {k : Int} {xs : List Int} (h : colCode p bs k xs = 0) : IsSys p bs ∧ (xs.length : Int) = p := by
  unfold colCode at h
  split at h
  · rename_i hs
    split at h
    · rename_i hc
      simp only [Bool.and_eq_true, decide_eq_true_eq] at hc
      exact ⟨sysB_of hs, hc.2.1⟩
    · omega
  · omega

theorem specIsColouring_ok {H : Heap} {u v : Value} {p k : Int} {bs : List Bk} {xs : List Int} (hu : BlocksAt H u bs) (hl : bs.length ≤ 1048576) (hk : In64 k) (hv : IntsAt H v xs) (hl' : xs.length ≤ 1048576) (hw : ∀ x ∈ xs, In64 x) (Post : Value → Heap → Prop)
    (h : ∀ H', H <+: H' → Post (.tuple #[.bool (rColouring p bs k xs false).1, .int .i64 (rColouring p bs k xs false).2]) H') : ACalls Try.prog 62 [sysV p u, .int .i64 k, v] H Post := by
  refine acalls_vc (rs := [.tmp 6, .tmp 7]) Try.func62 rfl rfl Try.ntmps62 rfl rfl ?_
  simp (maxSteps := 1000000) [go_sem, sysV, hu.one]
  have hp0 : H <+: H ++ [⟨[.int .i64 p, u], true, true⟩] := List.prefix_append _ _
  have hx0 := Holds.last H [.int .i64 p, u]
  refine l07Colours_ok (hu.pre hp0) hl (hv.pre hp0) _ ?_
  intro H1 hp1
  obtain ⟨d0, d1, d2⟩ := (hx0.pre hp1).sys
  by_cases hc : colCode p bs k xs = 0
  · obtain ⟨hS, hlen⟩ := colCode_good hc
    simp (maxSteps := 1000000) [go_sem, hc, d0, d1]
    refine l07Good_ok (hu.pre (hp0.trans hp1)) hS.good hS.1.2 (hv.pre (hp0.trans hp1)) (by omega) _ ?_
    intro H2 hp2
    simp (maxSteps := 1000000) [go_sem]
    have := h H2 (hp0.trans (hp1.trans hp2))
    simpa [rColouring, hc, hlen] using this
  · have he : (colCode p bs k xs != 0) = true := by simpa using hc
    simp (maxSteps := 1000000) [go_sem, he]
    simpa [rColouring, hc] using h H1 (hp0.trans hp1)
theorem specIsStrict_ok {H : Heap} {u v : Value} {p k : Int} {bs : List Bk} {xs : List Int} (hu : BlocksAt H u bs) (hl : bs.length ≤ 1048576) (hk : In64 k) (hv : IntsAt H v xs) (hl' : xs.length ≤ 1048576) (hw : ∀ x ∈ xs, In64 x) (Post : Value → Heap → Prop)
    (h : ∀ H', H <+: H' → Post (.tuple #[.bool (rColouring p bs k xs true).1, .int .i64 (rColouring p bs k xs true).2]) H') : ACalls Try.prog 65 [sysV p u, .int .i64 k, v] H Post := by
  refine acalls_vc (rs := [.tmp 6, .tmp 7]) Try.func65 rfl rfl Try.ntmps65 rfl rfl ?_
  simp (maxSteps := 1000000) [go_sem, sysV, hu.one]
  have hp0 : H <+: H ++ [⟨[.int .i64 p, u], true, true⟩] := List.prefix_append _ _
  have hx0 := Holds.last H [.int .i64 p, u]
  refine l07Colours_ok (hu.pre hp0) hl (hv.pre hp0) _ ?_
  intro H1 hp1
  obtain ⟨d0, d1, d2⟩ := (hx0.pre hp1).sys
  by_cases hc : colCode p bs k xs = 0
  · obtain ⟨hS, hlen⟩ := colCode_good hc
    simp (maxSteps := 1000000) [go_sem, hc, d0, d1]
    refine l07Good_ok (hu.pre (hp0.trans hp1)) hS.good hS.1.2 (hv.pre (hp0.trans hp1)) (by omega) _ ?_
    intro H2 hp2
    simp (maxSteps := 1000000) [go_sem]
    have := h H2 (hp0.trans (hp1.trans hp2))
    simpa [rColouring, hc, hlen] using this
  · have he : (colCode p bs k xs != 0) = true := by simpa using hc
    simp (maxSteps := 1000000) [go_sem, he]
    simpa [rColouring, hc] using h H1 (hp0.trans hp1)

/-- How many colourings go on from a list, with d points left. -/
def colCount (bs : List Bk) (k : Nat) : Nat → List Int → Nat
  | 0, _ => 1
  | d + 1, xs => ((List.range k).map fun c : Nat => if goodCol bs (xs ++ [(c : Int)]) ((xs.length : Int) + 1) false then colCount bs k d (xs ++ [(c : Int)]) else 0).sum
def colPart (bs : List Bk) (k d : Nat) (xs : List Int) (n : Nat) : Nat := ((List.range n).map fun c : Nat => if goodCol bs (xs ++ [(c : Int)]) ((xs.length : Int) + 1) false then colCount bs k d (xs ++ [(c : Int)]) else 0).sum
theorem colPart_succ (bs : List Bk) (k d : Nat) (xs : List Int) (n : Nat) : colPart bs k d xs (n + 1) = colPart bs k d xs n + (if goodCol bs (xs ++ [(n : Int)]) ((xs.length : Int) + 1) false then colCount bs k d (xs ++ [(n : Int)]) else 0) := by
  simp [colPart, List.range_succ]
theorem colPart_le {bs : List Bk} {k d B : Nat} {xs : List Int} (h : ∀ ys, colCount bs k d ys ≤ B) : ∀ n, colPart bs k d xs n ≤ n * B
  | 0 => by simp [colPart]
  | n + 1 => by
    rw [colPart_succ, Nat.add_mul]
    have := colPart_le (xs := xs) h n
    have := h (xs ++ [(n : Int)])
    split <;> omega
theorem colCount_le {bs : List Bk} {k : Nat} (hk : k ≤ 3) : ∀ (d : Nat) (xs : List Int), colCount bs k d xs ≤ 3 ^ d
  | 0, xs => by simp [colCount]
  | d + 1, xs => by
    have := colPart_le (xs := xs) (colCount_le (bs := bs) hk d) k
    have h2 : k * 3 ^ d ≤ 3 * 3 ^ d := Nat.mul_le_mul_right _ hk
    show colPart bs k d xs k ≤ _
    rw [Nat.pow_succ]; omega
theorem pow3_le {d : Nat} (h : d ≤ 15) : 3 ^ d ≤ 14348907 := by
  calc 3 ^ d ≤ 3 ^ 15 := Nat.pow_le_pow_right (by omega) h
    _ = 14348907 := by decide

theorem l07Ahead_ok {H : Heap} {u v : Value} {p : Int} {bs : List Bk} {xs : List Int} {st : Bool} (hu : BlocksAt H u bs) (hg : ∀ x ∈ bs, good p x = true) (hp : p ≤ 15) (hv : IntsAt H v xs) (Post : Value → Heap → Prop)
    (h : ∀ H', H <+: H' → Post (.bool (goodCol bs xs xs.length st)) H') : ACalls Try.prog 176 [sysV p u, v, .bool st] H Post := by
  refine acalls_vc (rs := [.tmp 6]) Try.func176 rfl rfl Try.ntmps176 rfl rfl ?_
  have hp0 : H <+: H ++ [⟨[.int .i64 p, u], true, true⟩] := List.prefix_append _ _
  have hvo := hv
  obtain ⟨j, q, rfl, h3, h4⟩ := hv
  simp (maxSteps := 1000000) [go_sem, sysV, hu.one]
  refine l07Good_ok (hu.pre hp0) hg hp (hvo.pre hp0) (Int.le_refl _) _ ?_
  intro H' hp'
  simp (maxSteps := 1000000) [go_sem]
  exact h H' (hp0.trans hp')

theorem l07All_ok {p k : Nat} {bs : List Bk} (hS : IsSys p bs) (hk : k ≤ 3) : ∀ (d : Nat) {H : Heap} {u v : Value} {xs : List Int} (hu : BlocksAt H u bs) (hv : IntsAt H v xs) (hd : xs.length + d = p) (Post : Value → Heap → Prop)
    (h : ∀ H', H <+: H' → Post (.int .i64 (colCount bs k d xs)) H'), ACalls Try.prog 116 [sysV p u, .int .i64 k, v] H Post := by
  have hp := hS.1
  intro d
  induction d with
  | zero =>
    intro H u v xs hu hv hd Post h
    obtain ⟨j, q, rfl, h3, h4⟩ := hv
    refine acalls_vc (rs := [.tmp 6]) Try.func116 rfl rfl Try.ntmps116 rfl rfl ?_
    have he : ((xs.length : Int) == (p : Int)) = true := by simp; omega
    simp (maxSteps := 1000000) [go_sem, sysV, hu.one, he]
    exact h _ (List.prefix_append _ _)
  | succ d ih =>
    intro H u v xs hu hv hd Post h
    have hvo := hv
    obtain ⟨j, q, rfl, h3, h4⟩ := hv
    refine acalls_vc (rs := [.tmp 6]) Try.func116 rfl rfl Try.ntmps116 rfl rfl ?_
    have he : ((xs.length : Int) == (p : Int)) = false := by simp; omega
    simp (maxSteps := 1000000) [go_sem, sysV, hu.one, he]
    have hp0 : H <+: H ++ [⟨[.int .i64 p, u], true, true⟩] := List.prefix_append _ _
    have hx0 := Holds.last H [.int .i64 p, u]
    generalize H ++ [(⟨[.int .i64 p, u], true, true⟩ : Blk)] = H0 at hp0 hx0 ⊢
    refine AWp.loopVc (fun s : Nat => [(1, .int .i64 k), (2, lv 1 j q xs.length), (3, .pointer (some ⟨H.length, 0, none⟩)), (7, .int .i64 (colPart bs k d xs s)), (8, .int .i64 s)])
      (fun s H' => s ≤ k ∧ H0 <+: H') (fun s => k - s) 0 ?_ ?_ ?_
    · simp [upF, Fr.get, Up.refl, colPart]
    · exact ⟨by omega, List.prefix_refl _⟩
    · rintro K s H' ⟨hs, hp'⟩ hK
      by_cases hlt : s < k
      · have hw_s : IntKind.i64.wrap ((s : Int) + 1) = (s : Int) + 1 := i64w (by omega) (by omega)
        simp (maxSteps := 1000000) [go_sem, hlt]
        refine l01Own_oe (hvo.pre (hp0.trans hp')) (by omega) _ ?_
        intro H2 w2 hp2 he2
        have hpp : H2 <+: H2 ++ [⟨[.int .i64 s], true, true⟩] := List.prefix_append _ _
        have hsrc : cellsAt (H2 ++ [(⟨[.int .i64 s], true, true⟩ : Blk)]) H2.length 0 1 = some [.int .i64 s] := (Holds.last H2 [.int .i64 s]).cell rfl
        obtain ⟨v4, H4, hap, he4, hk4, hl4⟩ := (he2.pre hpp).append (m := 1) (news := [.int .i64 s]) (by omega) (by have := hp2.length_le; simp; omega) rfl
        have hlen1 : (xs ++ [(s : Int)]).length = xs.length + 1 := by simp
        have he4' : OE 1 H'.length H4 v4 (ints (xs ++ [(s : Int)])) (xs ++ [(s : Int)]).length := by rw [hlen1, ← ints_append]; exact he4
        have hv4 := he4'.readI (by simp) (by omega)
        have hp4 : H' <+: H4 := KeepL.prefix (hp2.trans hpp) (Nat.le_refl _) hk4 hl4
        obtain ⟨a2, rfl⟩ := he2.shape
        obtain ⟨d0, d1, d2⟩ := (hx0.pre (hp'.trans hp4)).sys
        simp (maxSteps := 1000000) [go_sem, hsrc, hap, d0]
        refine andK_intro (by omega) ?_
        refine l07Ahead_ok (hu.pre (hp0.trans (hp'.trans hp4))) hS.good hp.2 hv4 _ ?_
        intro H5 hp5
        rw [hlen1, Int.natCast_add, Int.natCast_one]
        have hsucc := colPart_succ bs k d xs s
        cases hgc : goodCol bs (xs ++ [(s : Int)]) ((xs.length : Int) + 1) false with
        | false =>
          simp only [hgc, Bool.false_eq_true, if_false, Nat.add_zero] at hsucc
          simp (maxSteps := 1000000) [go_sem, hw_s]
          exact hK (s + 1) _ _ (by omega) (by simp [upF, Fr.get, Up.refl, hsucc]) ⟨by omega, hp'.trans (hp4.trans hp5)⟩
        | true =>
          simp only [hgc, if_true] at hsucc
          obtain ⟨d0, d1, d2⟩ := (hx0.pre (hp'.trans (hp4.trans hp5))).sys
          simp (maxSteps := 1000000) [go_sem, d0]
          refine ih (hu.pre (hp0.trans (hp'.trans (hp4.trans hp5)))) (hv4.pre hp5) (by rw [hlen1]; omega) _ ?_
          intro H6 hp6
          have hb1 := colPart_le (xs := xs) (colCount_le (bs := bs) hk d) s
          have hb2 := colCount_le (bs := bs) hk d (xs ++ [(s : Int)])
          have hb3 := pow3_le (d := d) (by omega)
          have hb4 : s * 3 ^ d ≤ 3 * 3 ^ d := Nat.mul_le_mul_right _ (by omega)
          generalize 3 ^ d = T at hb1 hb2 hb3 hb4
          have hwc : IntKind.i64.wrap ((colPart bs k d xs s : Int) + (colCount bs k d (xs ++ [(s : Int)]) : Int)) = (colPart bs k d xs (s + 1) : Int) := by rw [i64w (by omega) (by omega), hsucc]; omega
          simp (maxSteps := 1000000) [go_sem, hw_s, hwc]
          exact hK (s + 1) _ _ (by omega) (by simp [upF, Fr.get, Up.refl]) ⟨by omega, hp'.trans (hp4.trans (hp5.trans hp6))⟩
      · have : s = k := by omega
        subst this
        simp (maxSteps := 1000000) [go_sem]
        exact h H' (hp0.trans hp')

noncomputable def rCount (p : Int) (bs : List Bk) (k : Int) : Int × Int :=
  if sysB p bs then (if decide (1 ≤ k) && decide (k ≤ 3) then (if 9 < p then (0, 3) else ((colCount bs k.toNat p.toNat [] : Int), 0)) else (0, 2)) else (0, 1)

theorem specCountColourings_ok {H : Heap} {u : Value} {p k : Int} {bs : List Bk} (hu : BlocksAt H u bs) (hl : bs.length ≤ 1048576) (hk : In64 k) (Post : Value → Heap → Prop)
    (h : ∀ H', H <+: H' → Post (.tuple #[.int .i64 (rCount p bs k).1, .int .i64 (rCount p bs k).2]) H') : ACalls Try.prog 60 [sysV p u, .int .i64 k] H Post := by
  refine acalls_vc (rs := [.tmp 4, .tmp 5]) Try.func60 rfl rfl Try.ntmps60 rfl rfl ?_
  simp (maxSteps := 1000000) [go_sem, sysV, hu.one]
  have hp0 : H <+: H ++ [⟨[.int .i64 p, u], true, true⟩] := List.prefix_append _ _
  have hx0 := Holds.last H [.int .i64 p, u]
  refine l01Is' (hu.pre hp0) hl _ ?_
  intro H1 hp1
  obtain ⟨d0, d1, d2⟩ := (hx0.pre hp1).sys
  have fin := h H1 (hp0.trans hp1)
  cases hs : sysB p bs with
  | false =>
    simp (maxSteps := 1000000) [go_sem]
    simpa [rCount, hs] using fin
  | true =>
    have hS := sysB_of hs
    have hp := hS.1
    simp (maxSteps := 1000000) [go_sem]
    refine l01In_ok _ ?_
    cases hin : (decide (1 ≤ k) && decide (k ≤ 3)) with
    | false =>
      simp (maxSteps := 1000000) [go_sem]
      simpa [rCount, hs, hin] using fin
    | true =>
      have hk' : 1 ≤ k ∧ k ≤ 3 := by simpa using hin
      by_cases h9 : 9 < p
      · simp (maxSteps := 1000000) [go_sem, d1, h9]
        simpa [rCount, hs, hin, h9] using fin
      · simp (maxSteps := 1000000) [go_sem, d1, h9, d0]
        obtain ⟨n, rfl⟩ : ∃ n : Nat, p = n := ⟨p.toNat, by omega⟩
        obtain ⟨m, rfl⟩ : ∃ m : Nat, k = m := ⟨k.toNat, by omega⟩
        have hp2 : H1 <+: H1 ++ [⟨[], true, true⟩] := List.prefix_append _ _
        refine ACalls.up (args' := [sysV n u, .int .i64 m, lv 1 H1.length 0 0]) ⟨Up.refl _ _, Up.refl _ _, Up.ex0 _ _ _ _ _ _, trivial⟩ ?_
        refine l07All_ok hS (by omega) n (xs := []) (hu.pre (hp0.trans (hp1.trans hp2))) ⟨H1.length, 0, rfl, .inl rfl, by simp⟩ (by simp) _ ?_
        intro H3 hp3
        simp (maxSteps := 1000000) [go_sem]
        have := h H3 (hp0.trans (hp1.trans (hp2.trans hp3)))
        simpa [rCount, hs, hin, h9] using this

end Go.Proofs.Ytkgjdmbmdnmilaa
