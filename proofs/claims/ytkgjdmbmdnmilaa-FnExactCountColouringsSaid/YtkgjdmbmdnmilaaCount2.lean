/- The program's count of colourings. -/
import Derived.Test.YtkgjdmbmdnmilaaCount
set_option linter.all false
set_option maxRecDepth 20000
set_option maxHeartbeats 4000000
namespace Go.Proofs.Ytkgjdmbmdnmilaa
open Go.Ab

/-- The blocks with the last point are as told. -/
def lastOK (bs : List Bk) (xs : List Int) (st : Bool) : Bool := bs.all fun b => !(b.c == (xs.length : Int) - 1) || !bad3 (cAt xs b.a) (cAt xs b.b) (cAt xs b.c) st

theorem cAt_snoc {xs : List Int} {c : Int} {i : Int} (h0 : 0 ≤ i) (h : i < xs.length) : cAt (xs ++ [c]) i = cAt xs i := by
  unfold cAt
  rw [List.getD_eq_getElem?_getD, List.getD_eq_getElem?_getD, List.getElem?_append_left (by omega)]

theorem good_last {p : Int} {bs : List Bk} (hg : ∀ x ∈ bs, good p x = true) {xs : List Int} {c : Int} {st : Bool} (h : goodCol bs xs xs.length st = true) : goodCol bs (xs ++ [c]) ((xs.length : Int) + 1) st = lastOK bs (xs ++ [c]) st := by
  unfold goodCol lastOK at *
  rw [List.all_eq_true] at h
  apply Bool.eq_iff_iff.2
  rw [List.all_eq_true, List.all_eq_true]
  refine forall_congr' fun b => forall_congr' fun hb => ?_
  have hgb := good_iff.1 (hg b hb)
  have hh := h b hb
  have hlen : (((xs ++ [c]).length : Nat) : Int) - 1 = xs.length := by simp
  rw [hlen]
  by_cases h1 : (xs.length : Int) < b.c
  · have e1 : decide ((xs.length : Int) + 1 ≤ b.c) = true := by simp; omega
    have e2 : (b.c == (xs.length : Int)) = false := by simp; omega
    simp [e1, e2]
  · have e1 : decide ((xs.length : Int) + 1 ≤ b.c) = false := by simp; omega
    by_cases h2 : b.c = xs.length
    · have e2 : (b.c == (xs.length : Int)) = true := by simpa using h2
      rw [e1, e2]; simp
    · have e2 : (b.c == (xs.length : Int)) = false := by simpa using h2
      have e3 : decide ((xs.length : Int) ≤ b.c) = false := by simp; omega
      rw [e3, Bool.false_or] at hh
      rw [e1, e2, cAt_snoc (by omega) (by omega), cAt_snoc (by omega) (by omega), cAt_snoc (by omega) (by omega), hh]; simp

theorem fitsLast_ok {H : Heap} {u v : Value} {p : Int} {bs : List Bk} {xs : List Int} {st : Bool} (hu : BlocksAt H u bs) (hg : ∀ x ∈ bs, good p x = true) (hp : p ≤ 15) (hv : IntsAt H v xs) (hx : xs ≠ []) (Post : Value → Heap → Prop)
    (h : ∀ H', H <+: H' → Post (.bool (lastOK bs xs st)) H') : ACalls Try.prog 177 [sysV p u, v, .bool st] H Post := by
  obtain ⟨i, o, rfl, h1, h2⟩ := hu
  obtain ⟨j, q, rfl, h3, h4⟩ := hv
  obtain ⟨m, hm⟩ : ∃ m, xs.length = m + 1 := by cases xs with | nil => exact absurd rfl hx | cons x xs => exact ⟨xs.length, by simp⟩
  refine acalls_vc (rs := [.tmp 6]) Try.func177 rfl rfl Try.ntmps177 rfl rfl ?_
  have hw0 : IntKind.i64.wrap ((xs.length : Int) - 1) = (m : Int) := by rw [i64w (by omega) (by omega)]; omega
  simp (maxSteps := 1000000) [go_sem, sysV, hw0]
  have hp0 : H <+: H ++ [⟨[.int .i64 p, lv 3 i o bs.length], true, true⟩] := List.prefix_append _ _
  generalize H ++ [(⟨[.int .i64 p, lv 3 i o bs.length], true, true⟩ : Blk)] = H0 at hp0 ⊢
  have hlast : ∀ l : List Bk, lastOK l xs st = l.all fun b => !(b.c == (m : Int)) || !bad3 (cAt xs b.a) (cAt xs b.b) (cAt xs b.c) st := by
    intro l
    unfold lastOK
    rw [show ((xs.length : Int) - 1) = (m : Int) by omega]
  refine AWp.loopVc (fun s : Nat => [(1, lv 1 j q xs.length), (2, .bool st), (7, .int .i64 m), (14, lv 3 i o bs.length), (15, .int .i64 bs.length), (16, .int .i64 s)])
    (fun s H' => s ≤ bs.length ∧ H0 <+: H' ∧ lastOK (bs.take s) xs st = true) (fun s => bs.length - s) 0 ?_ ?_ ?_
  · simp [upF, Fr.get, Up.refl]
  · exact ⟨by omega, List.prefix_refl _, by simp [lastOK]⟩
  · rintro K s H' ⟨hs, hp', hf⟩ hK
    by_cases hlt : s < bs.length
    · have hbs : bs[s]? = some bs[s] := List.getElem?_eq_getElem hlt
      have c1 := (h1.pre (hp0.trans hp')).bk hbs
      obtain ⟨a, b, c, hb, hab, hbc, hc⟩ := good_nat (hg _ (List.mem_of_getElem? hbs)) hp
      rw [hb] at c1 hbs
      simp only [Bk.cells] at c1
      have hw_s : IntKind.i64.wrap ((s : Int) + 1) = (s : Int) + 1 := i64w (by omega) (by omega)
      have hsn : lastOK (bs.take (s + 1)) xs st = (!((c : Int) == (m : Int)) || !bad3 (cAt xs a) (cAt xs b) (cAt xs c) st) := by
        rw [hlast] at hf ⊢
        rw [List.take_succ_eq_append_getElem hlt, hb, List.all_append, hf]; simp
      have hpb : H' <+: H' ++ [⟨[.int .i64 a, .int .i64 b, .int .i64 c], true, true⟩] := List.prefix_append _ _
      obtain ⟨e0, e1, e2, e3⟩ := (Holds.last H' [.int .i64 a, .int .i64 b, .int .i64 c]).bk
      simp (maxSteps := 1000000) [go_sem, hlt, c1]
      refine AWp.draw mixed [(0, false), (1, false), (2, false), (3, false), (4, false), (5, false), (6, false), (7, false), (8, false), (9, false), (10, false), (11, false), (12, false), (13, false), (14, false), (15, false), (16, false), (17, false), (18, false), (19, false), (20, false), (21, false), (22, false)] (by kernel_rfl) ?_
      by_cases hxc : c = m
      · subst hxc
        have hxa : a < xs.length := by omega
        have hxb : b < xs.length := by omega
        have hxc : c < xs.length := by omega
        have f1 := cAt_load (h3.pre (hp0.trans (hp'.trans hpb))) hxa
        have f2 := cAt_load (h3.pre (hp0.trans (hp'.trans hpb))) hxb
        have f3 := cAt_load (h3.pre (hp0.trans (hp'.trans hpb))) hxc
        simp (maxSteps := 1000000) [go_sem, hxa, hxb, hxc, f1, f2, f3]
        refine isAllowed_ok _ ?_
        cases hb3 : bad3 (cAt xs a) (cAt xs b) (cAt xs c) st with
        | true =>
          simp (maxSteps := 1000000) [go_sem]
          have : lastOK bs xs st = false := by
            rw [hlast, List.all_eq_false]
            exact ⟨⟨a, b, c⟩, List.mem_of_getElem? hbs, by simp [hb3]⟩
          have := h _ (hp0.trans (hp'.trans hpb)) |> (this ▸ ·)
          exact this
        | false =>
          simp (maxSteps := 1000000) [go_sem, hw_s]
          exact hK (s + 1) _ _ (by omega) (by simp [upF, Fr.get, Up.refl]) ⟨by omega, hp'.trans hpb, by rw [hsn, hb3]; simp⟩
      · have hxc' : ((c : Int) == (m : Int)) = false := by simp; omega
        simp (maxSteps := 1000000) [go_sem, hxc', hw_s]
        exact hK (s + 1) _ _ (by omega) (by simp [upF, Fr.get, Up.refl]) ⟨by omega, hp'.trans hpb, by rw [hsn, hxc']; simp⟩
    · have : s = bs.length := by omega
      subst this
      rw [List.take_length] at hf
      simp (maxSteps := 1000000) [go_sem]
      have := h H' (hp0.trans hp')
      rwa [hf] at this

theorem countColourings_ok {p k : Nat} {bs : List Bk} (hS : IsSys p bs) (hk : k ≤ 3) : ∀ (d : Nat) {H : Heap} {u v : Value} {xs : List Int} (hu : BlocksAt H u bs) (hv : IntsAt H v xs) (hgd : goodCol bs xs xs.length false = true) (hd : xs.length + d = p) (Post : Value → Heap → Prop)
    (h : ∀ H', H <+: H' → Post (.int .i64 (colCount bs k d xs)) H'), ACalls Try.prog 117 [sysV p u, .int .i64 k, v] H Post := by
  have hp := hS.1
  intro d
  induction d with
  | zero =>
    intro H u v xs hu hv hgd hd Post h
    obtain ⟨j, q, rfl, h3, h4⟩ := hv
    refine acalls_vc (rs := [.tmp 6]) Try.func117 rfl rfl Try.ntmps117 rfl rfl ?_
    have he : ((xs.length : Int) == (p : Int)) = true := by simp; omega
    simp (maxSteps := 1000000) [go_sem, sysV, hu.one, he]
    exact h _ (List.prefix_append _ _)
  | succ d ih =>
    intro H u v xs hu hv hgd hd Post h
    have hvo := hv
    obtain ⟨j, q, rfl, h3, h4⟩ := hv
    refine acalls_vc (rs := [.tmp 6]) Try.func117 rfl rfl Try.ntmps117 rfl rfl ?_
    have he : ((xs.length : Int) == (p : Int)) = false := by simp; omega
    simp (maxSteps := 1000000) [go_sem, sysV, hu.one, he]
    have hp0 : H <+: H ++ [⟨[.int .i64 p, u], true, true⟩] := List.prefix_append _ _
    have hx0 := Holds.last H [.int .i64 p, u]
    generalize H ++ [(⟨[.int .i64 p, u], true, true⟩ : Blk)] = H0 at hp0 hx0 ⊢
    refine AWp.loopVc (fun s : Nat => [(1, .int .i64 k), (2, lv 1 j q xs.length), (3, .pointer (some ⟨H.length, 0, none⟩)), (7, .int .i64 (colPart bs k d xs s)), (15, .int .i64 k), (16, .int .i64 s)])
      (fun s H' => s ≤ k ∧ H0 <+: H') (fun s => k - s) 0 ?_ ?_ ?_
    · simp [upF, Fr.get, Up.refl, colPart]
    · exact ⟨by omega, List.prefix_refl _⟩
    · rintro K s H' ⟨hs, hp'⟩ hK
      by_cases hlt : s < k
      · have hw_s : IntKind.i64.wrap ((s : Int) + 1) = (s : Int) + 1 := i64w (by omega) (by omega)
        simp (maxSteps := 1000000) [go_sem, hlt]
        refine cloneI_oe (hvo.pre (hp0.trans hp')) (by omega) _ ?_
        intro H2 w2 hp2 he2
        have hpp : H2 <+: H2 ++ [⟨[.int .i64 s], true, true⟩] := List.prefix_append _ _
        have hsrc : cellsAt (H2 ++ [(⟨[.int .i64 s], true, true⟩ : Blk)]) H2.length 0 1 = some [.int .i64 s] := (Holds.last H2 [.int .i64 s]).cell rfl
        obtain ⟨v4, H4, hap, he4, hk4, hl4⟩ := (he2.pre hpp).append (m := 1) (news := [.int .i64 s]) (by omega) (by have := hp2.length_le; simp; omega) rfl
        have hlen1 : (xs ++ [(s : Int)]).length = xs.length + 1 := by simp
        have he4' : OE 1 H'.length H4 v4 (ints (xs ++ [(s : Int)])) (xs ++ [(s : Int)]).length := by rw [hlen1, ← ints_append]; exact he4
        have hv4 := he4'.readI (by simp) (by omega)
        have hp4 : H' <+: H4 := KeepL.prefix (hp2.trans hpp) (Nat.le_refl _) hk4 hl4
        obtain ⟨a2, rfl⟩ := he2.shape
        obtain ⟨d0, d1, d2⟩ := (hx0.pre (hp'.trans hp4)).sys
        simp (maxSteps := 1000000) [go_sem, hsrc, hap, d0]
        refine andK_intro (by omega) ?_
        refine fitsLast_ok (hu.pre (hp0.trans (hp'.trans hp4))) hS.good hp.2 hv4 (by simp) _ ?_
        intro H5 hp5
        rw [← good_last hS.good hgd]
        have hsucc := colPart_succ bs k d xs s
        cases hgc : goodCol bs (xs ++ [(s : Int)]) ((xs.length : Int) + 1) false with
        | false =>
          simp only [hgc, Bool.false_eq_true, if_false, Nat.add_zero] at hsucc
          simp (maxSteps := 1000000) [go_sem, hw_s]
          exact hK (s + 1) _ _ (by omega) (by simp [upF, Fr.get, Up.refl, hsucc]) ⟨by omega, hp'.trans (hp4.trans hp5)⟩
        | true =>
          simp only [hgc, if_true] at hsucc
          obtain ⟨d0, d1, d2⟩ := (hx0.pre (hp'.trans (hp4.trans hp5))).sys
          simp (maxSteps := 1000000) [go_sem, d0]
          refine ih (hu.pre (hp0.trans (hp'.trans (hp4.trans hp5)))) (hv4.pre hp5) (by rw [hlen1, Int.natCast_add, Int.natCast_one]; exact hgc) (by rw [hlen1]; omega) _ ?_
          intro H6 hp6
          have hb1 := colPart_le (xs := xs) (colCount_le (bs := bs) hk d) s
          have hb2 := colCount_le (bs := bs) hk d (xs ++ [(s : Int)])
          have hb3 := pow3_le (d := d) (by omega)
          have hb4 : s * 3 ^ d ≤ 3 * 3 ^ d := Nat.mul_le_mul_right _ (by omega)
          generalize 3 ^ d = T at hb1 hb2 hb3 hb4
          have hwc : IntKind.i64.wrap ((colPart bs k d xs s : Int) + (colCount bs k d (xs ++ [(s : Int)]) : Int)) = (colPart bs k d xs (s + 1) : Int) := by rw [i64w (by omega) (by omega), hsucc]; omega
          simp (maxSteps := 1000000) [go_sem, hw_s, hwc]
          exact hK (s + 1) _ _ (by omega) (by simp [upF, Fr.get, Up.refl]) ⟨by omega, hp'.trans (hp4.trans (hp5.trans hp6))⟩
      · have : s = k := by omega
        subst this
        simp (maxSteps := 1000000) [go_sem]
        exact h H' (hp0.trans hp')

theorem implCountColourings_ok {H : Heap} {u : Value} {p k : Int} {bs : List Bk} (hu : BlocksAt H u bs) (hl : bs.length ≤ 1048576) (hk : In64 k) (Post : Value → Heap → Prop)
    (h : ∀ H', H <+: H' → Post (.tuple #[.int .i64 (rCount p bs k).1, .int .i64 (rCount p bs k).2]) H') : ACalls Try.prog 61 [sysV p u, .int .i64 k] H Post := by
  refine acalls_vc (rs := [.tmp 4, .tmp 5]) Try.func61 rfl rfl Try.ntmps61 rfl rfl ?_
  simp (maxSteps := 1000000) [go_sem, sysV, hu.one]
  have hp0 : H <+: H ++ [⟨[.int .i64 p, u], true, true⟩] := List.prefix_append _ _
  have hx0 := Holds.last H [.int .i64 p, u]
  refine implIsSys (hu.pre hp0) _ ?_
  intro H1 hp1
  obtain ⟨d0, d1, d2⟩ := (hx0.pre hp1).sys
  have fin := h H1 (hp0.trans hp1)
  cases hs : sysB p bs with
  | false =>
    simp (maxSteps := 1000000) [go_sem]
    simpa [rCount, hs] using fin
  | true =>
    have hS := sysB_of hs
    have hp := hS.1
    simp (maxSteps := 1000000) [go_sem]
    refine within_ok _ ?_
    cases hin : (decide (1 ≤ k) && decide (k ≤ 3)) with
    | false =>
      simp (maxSteps := 1000000) [go_sem]
      simpa [rCount, hs, hin] using fin
    | true =>
      have hk' : 1 ≤ k ∧ k ≤ 3 := by simpa using hin
      by_cases h9 : 9 < p
      · simp (maxSteps := 1000000) [go_sem, d1, h9]
        simpa [rCount, hs, hin, h9] using fin
      · simp (maxSteps := 1000000) [go_sem, d1, h9, d0]
        obtain ⟨n, rfl⟩ : ∃ n : Nat, p = n := ⟨p.toNat, by omega⟩
        obtain ⟨m, rfl⟩ : ∃ m : Nat, k = m := ⟨k.toNat, by omega⟩
        refine ACalls.up (args' := [sysV n u, .int .i64 m, lv 1 0 0 0]) ⟨Up.refl _ _, Up.refl _ _, Up.nil _ _ _ _, trivial⟩ ?_
        refine countColourings_ok hS (by omega) n (xs := []) (hu.pre (hp0.trans hp1)) ⟨0, 0, rfl, .inl rfl, by simp⟩ ?_ (by simp) _ ?_
        · unfold goodCol
          rw [List.all_eq_true]
          intro b hb
          have := good_iff.1 (hS.good b hb)
          simp; left; omega
        intro H3 hp3
        simp (maxSteps := 1000000) [go_sem]
        have := h H3 (hp0.trans (hp1.trans hp3))
        simpa [rCount, hs, hin, h9] using this

end Go.Proofs.Ytkgjdmbmdnmilaa
