/- The third point of two: both sides. -/
import Derived.Test.YtkgjdmbmdnmilaaLaw3
set_option linter.all false
set_option maxRecDepth 20000
namespace Go.Proofs.Ytkgjdmbmdnmilaa
open Go.Ab

theorem _root_.Go.Ab.IsSys.good {p : Int} {bs : List Bk} (h : IsSys p bs) : ∀ x ∈ bs, good p x = true := by
  intro x hx
  obtain ⟨k, hk⟩ := List.mem_iff_getElem?.1 hx
  exact (h.2.2.1 k x hk).1
theorem _root_.Go.Ab.IsSys.good15 {p : Int} {bs : List Bk} (h : IsSys p bs) : ∀ x ∈ bs, Ab.good 15 x = true := by
  intro x hx
  have := h.good x hx
  have := h.1
  rw [good_iff] at *
  omega
theorem sysB_of {p : Int} {bs : List Bk} (h : sysB p bs = true) : IsSys p bs := sysB_iff.1 h

/-- A point of a system. -/
def inP (p x : Int) : Bool := decide (0 ≤ x) && decide (x ≤ p - 1)
theorem inP_iff {p x : Int} : inP p x = true ↔ 0 ≤ x ∧ x ≤ p - 1 := by simp [inP]
theorem inP_false {p x : Int} : inP p x = false ↔ ¬ (0 ≤ x ∧ x ≤ p - 1) := by rw [← inP_iff]; simp

theorem l01With_ok {H : Heap} {b : Bk} {p : Int} (Post : Value → Heap → Prop) (h : ∀ H', H <+: H' → Post (.bool (b.has p)) H') :
    ACalls Try.prog 170 [b.val, .int .i64 p] H Post := by
  refine acalls_vc (rs := [.tmp 4]) Try.func170 rfl rfl Try.ntmps170 rfl rfl ?_
  obtain ⟨a, b, c⟩ := b
  have h := h _ (List.prefix_append H [⟨[.int .i64 a, .int .i64 b, .int .i64 c], true, true⟩])
  simp only [Bk.has] at h
  by_cases h1 : a = p
  · have e1 : (a == p) = true := by simpa using h1
    simp (maxSteps := 1000000) [go_sem, Bk.val, e1]
    simpa [h1] using h
  · have e1 : (a == p) = false := by simpa using h1
    by_cases h2 : b = p
    · have e2 : (b == p) = true := by simpa using h2
      simp (maxSteps := 1000000) [go_sem, Bk.val, e1, e2]
      simpa [h1, h2] using h
    · have e2 : (b == p) = false := by simpa using h2
      simp (maxSteps := 1000000) [go_sem, Bk.val, e1, e2]
      have e3 : (c == p) = decide (c = p) := rfl
      rw [e3]
      simpa [h1, h2] using h

theorem l01Third_ok {H : Heap} {u : Value} {p q r : Int} {bs : List Bk} (hu : BlocksAt H u bs) (hg : ∀ x ∈ bs, good 15 x = true) (Post : Value → Heap → Prop) (h : ∀ H', H <+: H' → Post (.int .i64 (third bs q r)) H') :
    ACalls Try.prog 104 [sysV p u, .int .i64 q, .int .i64 r] H Post := by
  obtain ⟨i, o, rfl, h1, h2⟩ := hu
  refine acalls_vc (rs := [.tmp 6]) Try.func104 rfl rfl Try.ntmps104 rfl rfl ?_
  simp (maxSteps := 1000000) [go_sem, sysV]
  have hx0 := Holds.last H [.int .i64 p, lv 3 i o bs.length]
  have hp0 : H <+: H ++ [⟨[.int .i64 p, lv 3 i o bs.length], true, true⟩] := List.prefix_append _ _
  generalize H ++ [(⟨[.int .i64 p, lv 3 i o bs.length], true, true⟩ : Blk)] = H0 at hx0 hp0 ⊢
  refine AWp.loopVc (fun s : Nat => [(1, .int .i64 q), (2, .int .i64 r), (3, .pointer (some ⟨H.length, 0, none⟩)), (7, .int .i64 s)])
    (fun s H' => s ≤ bs.length ∧ H0 <+: H' ∧ (bs.take s).find? (fun c => c.has q && c.has r) = none) (fun s => bs.length - s) 0 ?_ ?_ ?_
  · simp [upF, Fr.get, Up.refl]
  · exact ⟨by omega, List.prefix_refl _, by simp⟩
  · rintro K s H' ⟨hs, hp, hf⟩ hK
    obtain ⟨d0, d1, d2⟩ := (hx0.pre hp).sys
    by_cases hlt : s < bs.length
    · have hbs : bs[s]? = some bs[s] := List.getElem?_eq_getElem hlt
      have c1 := (h1.pre (hp0.trans hp)).bk hbs
      simp only [Bk.cells] at c1
      have hw_s : IntKind.i64.wrap ((s : Int) + 1) = (s : Int) + 1 := i64w (by omega) (by omega)
      have hsucc : (bs.take (s + 1)).find? (fun c => c.has q && c.has r) = if bs[s].has q && bs[s].has r then some bs[s] else none := by
        rw [List.take_succ_eq_append_getElem hlt, List.find?_append, hf, List.find?_cons]
        cases bs[s].has q && bs[s].has r <;> rfl
      simp (maxSteps := 1000000) [go_sem, hlt, d2, c1]
      have hb0 := Holds.last H' [.int .i64 bs[s].a, .int .i64 bs[s].b, .int .i64 bs[s].c]
      refine l01With_ok (b := bs[s]) _ ?_
      intro H2 hp2
      obtain ⟨e0, e1, e2, e3⟩ := (hb0.pre hp2).bk
      cases hq : bs[s].has q with
      | false =>
        simp (maxSteps := 1000000) [go_sem, hw_s]
        exact hK (s + 1) _ _ (by omega) (by simp [upF, Fr.get, Up.refl]) ⟨by omega, hp.trans (pre_box hp2), by rw [hsucc, hq]; rfl⟩
      | true =>
        simp (maxSteps := 1000000) [go_sem, e0]
        refine l01With_ok (b := bs[s]) _ ?_
        intro H3 hp3
        obtain ⟨f0, f1, f2, f3⟩ := (hb0.pre (hp2.trans hp3)).bk
        cases hr : bs[s].has r with
        | false =>
          simp (maxSteps := 1000000) [go_sem, hw_s]
          exact hK (s + 1) _ _ (by omega) (by simp [upF, Fr.get, Up.refl]) ⟨by omega, hp.trans ((pre_box hp2).trans hp3), by rw [hsucc, hq, hr]; rfl⟩
        | true =>
          have hgd := hg _ (List.mem_of_getElem? hbs)
          rw [good_iff] at hgd
          rw [Bk.has_iff] at hq hr
          have w1 : IntKind.i64.wrap (bs[s].a + bs[s].b) = bs[s].a + bs[s].b := i64w (by omega) (by omega)
          have w2 : IntKind.i64.wrap (bs[s].a + bs[s].b + bs[s].c) = bs[s].a + bs[s].b + bs[s].c := i64w (by omega) (by omega)
          have w3 : IntKind.i64.wrap (bs[s].a + bs[s].b + bs[s].c - q) = bs[s].a + bs[s].b + bs[s].c - q := i64w (by omega) (by omega)
          have w4 : IntKind.i64.wrap (bs[s].a + bs[s].b + bs[s].c - q - r) = bs[s].a + bs[s].b + bs[s].c - q - r := i64w (by omega) (by omega)
          simp (maxSteps := 1000000) [go_sem, f1, f2, f3, w1, w2, w3, w4]
          have := h H3 (hp0.trans (hp.trans ((pre_box hp2).trans hp3)))
          rw [← Bk.has_iff] at hq hr
          have ht : third bs q r = bs[s].a + bs[s].b + bs[s].c - q - r := by
            have e : bs = bs.take (s + 1) ++ bs.drop (s + 1) := (List.take_append_drop _ _).symm
            unfold third
            conv => lhs; rw [e]
            rw [List.find?_append, hsucc, hq, hr]; rfl
          rw [ht] at this; exact this
    · have : s = bs.length := by omega
      subst this
      rw [List.take_length] at hf
      simp (maxSteps := 1000000) [go_sem, d2]
      have := h H' (hp0.trans hp)
      unfold third at this
      rw [hf] at this; exact this

noncomputable def ptsCode (p : Int) (bs : List Bk) (xs : List Int) : Int := if sysB p bs then (if xs.all (inP p) then 0 else 2) else 1

theorem l01Points_ok {H : Heap} {u v : Value} {p : Int} {bs : List Bk} {xs : List Int} (hu : BlocksAt H u bs) (hl : bs.length ≤ 1048576) (hv : IntsAt H v xs) (Post : Value → Heap → Prop) (h : ∀ H', H <+: H' → Post (.int .i64 (ptsCode p bs xs)) H') :
    ACalls Try.prog 103 [sysV p u, v] H Post := by
  obtain ⟨i, o, rfl, h1, h2⟩ := hv
  refine acalls_vc (rs := [.tmp 4]) Try.func103 rfl rfl Try.ntmps103 rfl rfl ?_
  simp (maxSteps := 1000000) [go_sem, sysV, hu.one]
  refine l01Is' (hu.pre (List.prefix_append _ _)) hl _ ?_
  intro H1 hp1
  have hx1 := (Holds.last H [.int .i64 p, u]).pre hp1
  cases hs : sysB p bs with
  | false =>
    simp (maxSteps := 1000000) [go_sem]
    simpa [ptsCode, hs] using h H1 (pre_box hp1)
  | true =>
    have hp := (sysB_of hs).1
    simp (maxSteps := 1000000) [go_sem]
    refine AWp.loopVc (fun s : Nat => [(1, lv 1 i o xs.length), (2, .pointer (some ⟨H.length, 0, none⟩)), (5, .int .i64 s)])
      (fun s H' => s ≤ xs.length ∧ H1 <+: H' ∧ (xs.take s).all (inP p) = true) (fun s => xs.length - s) 0 ?_ ?_ ?_
    · simp [upF, Fr.get, Up.refl]
    · exact ⟨by omega, List.prefix_refl _, by simp⟩
    · rintro K s H' ⟨hs', hp', hf⟩ hK
      obtain ⟨d0, d1, d2⟩ := (hx1.pre hp').sys
      by_cases hlt : s < xs.length
      · have c1 := (h1.pre ((pre_box hp1).trans hp')).cell (k := s) (v := .int .i64 xs[s]) (by simp [ints_get, hlt])
        have hw_s : IntKind.i64.wrap ((s : Int) + 1) = (s : Int) + 1 := i64w (by omega) (by omega)
        have hw2 : IntKind.i64.wrap (p - 1) = p - 1 := i64w (by omega) (by omega)
        simp (maxSteps := 1000000) [go_sem, hlt]
        refine AWp.draw mixed [(0, false), (1, false), (2, false), (3, false), (4, false), (5, false), (6, false), (7, false), (8, false)] (by kernel_rfl) ?_
        simp (maxSteps := 1000000) [go_sem, hlt, c1, d1, hw2]
        refine l01In_ok _ ?_
        cases hin : inP p xs[s] with
        | true =>
          have hin' := hin
          unfold inP at hin'
          rw [hin']
          simp (maxSteps := 1000000) [go_sem, hw_s]
          refine hK (s + 1) _ _ (by omega) (by simp [upF, Fr.get, Up.refl]) ⟨by omega, hp', ?_⟩
          rw [List.take_succ_eq_append_getElem hlt, List.all_append, hf]; simp [hin]
        | false =>
          have hin' := hin
          unfold inP at hin'
          rw [hin']
          simp (maxSteps := 1000000) [go_sem]
          have : xs.all (inP p) = false := by
            rw [List.all_eq_false]; exact ⟨xs[s], List.getElem_mem hlt, by simp [hin]⟩
          simpa [ptsCode, hs, this] using h H' ((pre_box hp1).trans hp')
      · have : s = xs.length := by omega
        subst this
        rw [List.take_length] at hf
        simp (maxSteps := 1000000) [go_sem]
        simpa [ptsCode, hs, hf] using h H' ((pre_box hp1).trans hp')

noncomputable def pairCode (p : Int) (bs : List Bk) (a b : Int) : Int := if sysB p bs then (if inP p a && inP p b && !decide (a = b) then 0 else 2) else 1
noncomputable def rThird (p : Int) (bs : List Bk) (a b : Int) : Int × Int :=
  if pairCode p bs a b = 0 then (if third bs a b = -1 then (0, 4) else (third bs a b, 0)) else (0, pairCode p bs a b)

theorem pairCode_good {p : Int} {bs : List Bk} {a b : Int} (h : pairCode p bs a b = 0) : IsSys p bs ∧ (0 ≤ a ∧ a ≤ p - 1) ∧ (0 ≤ b ∧ b ≤ p - 1) ∧ a ≠ b := by
  unfold pairCode at h
  split at h
  · rename_i hs
    split at h
    · rename_i hc
      simp only [Bool.and_eq_true, Bool.not_eq_true', decide_eq_false_iff_not] at hc
      exact ⟨sysB_of hs, inP_iff.1 hc.1.1, inP_iff.1 hc.1.2, hc.2⟩
    · omega
  · omega

theorem specThirdPoint_ok {H : Heap} {u : Value} {p a b : Int} {bs : List Bk} (hu : BlocksAt H u bs) (hl : bs.length ≤ 1048576) (ha : In64 a) (hb : In64 b) (Post : Value → Heap → Prop)
    (h : ∀ H', H <+: H' → Post (.tuple #[.int .i64 (rThird p bs a b).1, .int .i64 (rThird p bs a b).2]) H') :
    ACalls Try.prog 42 [sysV p u, .int .i64 a, .int .i64 b] H Post := by
  refine acalls_vc (rs := [.tmp 6, .tmp 7]) Try.func42 rfl rfl Try.ntmps42 rfl rfl ?_
  simp (maxSteps := 1000000) [go_sem, sysV, hu.one]
  have hp0 : H <+: H ++ [⟨[.int .i64 p, u], true, true⟩, ⟨[.int .i64 a, .int .i64 b], true, true⟩] := List.prefix_append _ _
  have hx0 : Holds (H ++ [⟨[.int .i64 p, u], true, true⟩, ⟨[.int .i64 a, .int .i64 b], true, true⟩]) H.length [.int .i64 p, u] := ⟨true, by simp⟩
  refine ACalls.up (args' := [sysV p u, lv 1 (H.length + 1) 0 2]) ⟨Up.refl _ _, Up.ex (by omega) (.inr (by simp [go_sem])), trivial⟩ ?_
  refine l01Points_ok (xs := [a, b]) (hu.pre hp0) hl ⟨H.length + 1, 0, rfl, Holds.at ⟨true, by simp [ints]⟩, by simp⟩ _ ?_
  intro H1 hp1
  obtain ⟨d0, d1, d2⟩ := (hx0.pre hp1).sys
  have fin : ∀ H', H1 <+: H' → Post _ H' := fun H' hp => h H' (hp0.trans (hp1.trans hp))
  cases hs : sysB p bs with
  | false =>
    have e1 : ptsCode p bs [a, b] = 1 := by simp [ptsCode, hs]
    have e2 : pairCode p bs a b = 1 := by simp [pairCode, hs]
    simp (maxSteps := 1000000) [go_sem, e1]
    simpa [rThird, e2] using fin H1 (List.prefix_refl _)
  | true =>
    cases hin : (inP p a && inP p b) with
    | false =>
      have e1 : ptsCode p bs [a, b] = 2 := by simp [ptsCode, hs, hin]
      have e2 : pairCode p bs a b = 2 := by simp [pairCode, hs, hin]
      simp (maxSteps := 1000000) [go_sem, e1]
      simpa [rThird, e2] using fin H1 (List.prefix_refl _)
    | true =>
      have e1 : ptsCode p bs [a, b] = 0 := by
        simp only [Bool.and_eq_true] at hin
        simp [ptsCode, hs, hin.1, hin.2]
      by_cases hab : a = b
      · subst hab
        have e2 : pairCode p bs a a = 2 := by simp [pairCode, hs]
        simp (maxSteps := 1000000) [go_sem, e1]
        simpa [rThird, e2] using fin H1 (List.prefix_refl _)
      · have e2 : pairCode p bs a b = 0 := by simp [pairCode, hs, hin, hab]
        have hS := sysB_of hs
        have e3 : (a == b) = false := by simpa using hab
        simp (maxSteps := 1000000) [go_sem, e1, e3, d0]
        refine l01Third_ok (hu.pre (hp0.trans hp1)) hS.good15 _ ?_
        intro H2 hp2
        by_cases ht : third bs a b = -1
        · simp (maxSteps := 1000000) [go_sem, ht]
          simpa [rThird, e2, ht] using fin H2 hp2
        · obtain ⟨_, _, _, _, _, h0, _⟩ := third_some hS.good15 hab ht
          have hneg : decide (third bs a b < 0) = false := by simpa using h0
          simp (maxSteps := 1000000) [go_sem, hneg]
          simpa [rThird, e2, ht] using fin H2 hp2

theorem isPoint_ok {H : Heap} {u : Value} {p x : Int} (hu : u.oneCell' = true) (hp : 3 ≤ p ∧ p ≤ 15) (Post : Value → Heap → Prop) (h : ∀ H', H <+: H' → Post (.bool (inP p x)) H') :
    ACalls Try.prog 171 [sysV p u, .int .i64 x] H Post := by
  refine acalls_vc (rs := [.tmp 4]) Try.func171 rfl rfl Try.ntmps171 rfl rfl ?_
  have hw2 : IntKind.i64.wrap (p - 1) = p - 1 := i64w (by omega) (by omega)
  simp (maxSteps := 1000000) [go_sem, sysV, hu, hw2]
  refine within_ok _ ?_
  simp (maxSteps := 1000000) [go_sem]
  exact h _ (List.prefix_append _ _)

theorem pairCode_ok {H : Heap} {u : Value} {p a b : Int} {bs : List Bk} (hu : BlocksAt H u bs) (Post : Value → Heap → Prop) (h : ∀ H', H <+: H' → Post (.int .i64 (pairCode p bs a b)) H') :
    ACalls Try.prog 105 [sysV p u, .int .i64 a, .int .i64 b] H Post := by
  refine acalls_vc (rs := [.tmp 6]) Try.func105 rfl rfl Try.ntmps105 rfl rfl ?_
  simp (maxSteps := 1000000) [go_sem, sysV, hu.one]
  have hp0 : H <+: H ++ [⟨[.int .i64 p, u], true, true⟩] := List.prefix_append _ _
  have hx0 := Holds.last H [.int .i64 p, u]
  refine implIsSys (hu.pre hp0) _ ?_
  intro H1 hp1
  obtain ⟨d0, d1, d2⟩ := (hx0.pre hp1).sys
  cases hs : sysB p bs with
  | false =>
    simp (maxSteps := 1000000) [go_sem]
    simpa [pairCode, hs] using h H1 (hp0.trans hp1)
  | true =>
    have hp := (sysB_of hs).1
    simp (maxSteps := 1000000) [go_sem, d0]
    refine isPoint_ok hu.one hp _ ?_
    intro H2 hp2
    obtain ⟨e0, _, _⟩ := (hx0.pre (hp1.trans hp2)).sys
    cases ha : inP p a with
    | false =>
      simp (maxSteps := 1000000) [go_sem]
      simpa [pairCode, hs, ha] using h H2 (hp0.trans (hp1.trans hp2))
    | true =>
      simp (maxSteps := 1000000) [go_sem, e0]
      refine isPoint_ok hu.one hp _ ?_
      intro H3 hp3
      have fin := h H3 (hp0.trans (hp1.trans (hp2.trans hp3)))
      cases hb : inP p b with
      | false =>
        simp (maxSteps := 1000000) [go_sem]
        simpa [pairCode, hs, ha, hb] using fin
      | true =>
        by_cases hab : a = b
        · have e3 : (a == b) = true := by simpa using hab
          simp (maxSteps := 1000000) [go_sem, e3]
          simpa [pairCode, hs, ha, hb, hab] using fin
        · have e3 : (a == b) = false := by simpa using hab
          simp (maxSteps := 1000000) [go_sem, e3]
          simpa [pairCode, hs, ha, hb, hab] using fin

theorem implThirdPoint_ok {H : Heap} {u : Value} {p a b : Int} {bs : List Bk} (hu : BlocksAt H u bs) (hl : bs.length ≤ 1048576) (ha : In64 a) (hb : In64 b) (Post : Value → Heap → Prop)
    (h : ∀ H', H <+: H' → Post (.tuple #[.int .i64 (rThird p bs a b).1, .int .i64 (rThird p bs a b).2]) H') :
    ACalls Try.prog 43 [sysV p u, .int .i64 a, .int .i64 b] H Post := by
  refine acalls_vc (rs := [.tmp 6, .tmp 7]) Try.func43 rfl rfl Try.ntmps43 rfl rfl ?_
  simp (maxSteps := 1000000) [go_sem, sysV, hu.one]
  have hp0 : H <+: H ++ [⟨[.int .i64 p, u], true, true⟩] := List.prefix_append _ _
  have hx0 := Holds.last H [.int .i64 p, u]
  refine pairCode_ok (hu.pre hp0) _ ?_
  intro H1 hp1
  obtain ⟨d0, d1, d2⟩ := (hx0.pre hp1).sys
  by_cases hc : pairCode p bs a b = 0
  · obtain ⟨hS, ⟨ha0, ha1⟩, ⟨hb0, hb1⟩, hab⟩ := pairCode_good hc
    have hp := hS.1
    obtain ⟨x, rfl⟩ : ∃ x : Nat, a = x := ⟨a.toNat, by omega⟩
    obtain ⟨y, rfl⟩ : ∃ y : Nat, b = y := ⟨b.toNat, by omega⟩
    simp (maxSteps := 1000000) [go_sem, hc, d0]
    refine sysGrid_ok (hu.pre (hp0.trans hp1)) hS.good15 hS.2.2.2 _ ?_
    intro H2 id gs hp2 _ hga hgo
    have hx : x < 15 := by omega
    have hy : y < 15 := by omega
    have hx' : (x : Int) < 15 := by omega
    have hy' : (y : Int) < 15 := by omega
    have c1 : cellsAt H2 id (x * 15 + y) 1 = some [.int .i64 (gAt gs x y)] := hga.load (by omega)
    rw [hgo.2 x y hx hy, if_neg (by omega)] at c1
    have fin := h H2 (hp0.trans (hp1.trans hp2))
    by_cases ht : third bs x y = -1
    · rw [ht] at c1
      simp (maxSteps := 1000000) [go_sem, hx, hy, hx', hy', c1]
      simpa [rThird, hc, ht] using fin
    · have e3 : (third bs x y == -1) = false := by simpa using ht
      simp (maxSteps := 1000000) [go_sem, hx, hy, hx', hy', c1, e3]
      simpa [rThird, hc, ht] using fin
  · have e3 : (pairCode p bs a b != 0) = true := by simpa using hc
    simp (maxSteps := 1000000) [go_sem, e3]
    simpa [rThird, hc] using h H1 (hp0.trans hp1)

end Go.Proofs.Ytkgjdmbmdnmilaa
