/- The grid of a list of blocks; the program's test for systems. -/
import Derived.Test.YtkgjdmbmdnmilaaGrid
set_option linter.all false
set_option maxRecDepth 20000
namespace Go.Proofs.Ytkgjdmbmdnmilaa
open Go.Ab

theorem GridAt.keep {H H' : Heap} {id : Nat} {gs : List Int} (h : GridAt H id gs) (hp : H <+: H') : GridAt H' id gs :=
  ⟨Same.get (S := fun _ => False) (Same.of_prefix hp) h.1 (fun h => h), h.2⟩

theorem good_nat {v : Int} {b : Bk} (h : good v b = true) (hv : v ≤ 15) : ∃ x y z : Nat, b = ⟨x, y, z⟩ ∧ x < y ∧ y < z ∧ z < 15 := by
  rw [good_iff] at h
  obtain ⟨a, b, c⟩ := b
  simp only at h
  exact ⟨a.toNat, b.toNat, c.toNat, by simp only [Bk.mk.injEq]; omega, by omega, by omega, by omega⟩

theorem gridOf_ok {H : Heap} {u : Value} {bs : List Bk} (hu : BlocksAt H u bs) (hg : ∀ x ∈ bs, good 15 x = true) (Post : Value → Heap → Prop)
    (hbad : ∀ H', H <+: H' → ¬ Fits bs → Post (.tuple #[.pointer none, .bool false]) H')
    (hgood : ∀ H' id gs, H <+: H' → H.length ≤ id → GridAt H' id gs → GridOf gs bs → Fits bs → Post (.tuple #[.pointer (some ⟨id, 0, none⟩), .bool true]) H') :
    ACalls Try.prog 162 [u] H Post := by
  obtain ⟨i, o, rfl, h1, h2⟩ := hu
  refine acalls_vc (rs := [.tmp 2, .tmp 3]) Try.func162 rfl rfl Try.ntmps162 rfl rfl ?_
  simp (maxSteps := 1000000) [go_sem]
  refine newGrid_ok _ ?_
  intro H0 id hp0 hid hg0
  simp (maxSteps := 1000000) [go_sem]
  refine AWp.loopVc (St := Nat × List Int) (fun s => [(4, .pointer (some ⟨id, 0, none⟩)), (8, lv 3 i o bs.length), (9, .int .i64 bs.length), (10, .int .i64 s.1)])
    (fun s H' => s.1 ≤ bs.length ∧ H <+: H' ∧ GridAt H' id s.2 ∧ GridOf s.2 (bs.take s.1) ∧ Fits (bs.take s.1)) (fun s => bs.length - s.1) (0, List.replicate 225 (-1)) ?_ ?_ ?_
  · simp [upF, Fr.get, Up.refl]
  · refine ⟨by simp, hp0, hg0, by simpa using gridOf_nil, ?_⟩
    intro i k x y hk hx; simp at hx
  · rintro K ⟨s, gs⟩ H' ⟨hs, hp, hgr, hof, hfit⟩ hK
    simp only at hs hgr hof hfit
    by_cases hlt : s < bs.length
    · have hbs : bs[s]? = some bs[s] := List.getElem?_eq_getElem hlt
      have c1 := (h1.pre hp).bk hbs
      obtain ⟨a, b, c, hb, hab, hbc, hc⟩ := good_nat (hg _ (List.mem_of_getElem? hbs)) (by omega)
      have hgt : ∀ x ∈ bs.take s, good 15 x = true := fun x hx => hg x (List.mem_of_mem_take hx)
      have htake : bs.take (s + 1) = bs.take s ++ [⟨a, b, c⟩] := by rw [List.take_succ_eq_append_getElem hlt, hb]
      have hgb : good 15 ⟨a, b, c⟩ = true := by rw [good_iff]; simp only; omega
      rw [hb] at c1
      simp only [Bk.cells] at c1
      have hw_s : IntKind.i64.wrap ((s : Int) + 1) = (s : Int) + 1 := i64w (by omega) (by omega)
      simp (maxSteps := 1000000) [go_sem, hlt, c1, Value.oneCell']
      have hp2 : H' <+: H' ++ [⟨[.int .i64 a, .int .i64 b, .int .i64 c], true, true⟩] := List.prefix_append _ _
      have hbox : (H' ++ [(⟨[.int .i64 a, .int .i64 b, .int .i64 c], true, true⟩ : Blk)])[H'.length]? = some ⟨[.int .i64 a, .int .i64 b, .int .i64 c], true, true⟩ := by simp
      refine isLeft_ok (hgr.keep hp2) (by omega) (by omega) hc _ ?_
      intro H3 hp3
      rw [gridOf_left hof hab hbc hc]
      have d1 : cellsAt H3 H'.length 0 3 = some [.int .i64 a, .int .i64 b, .int .i64 c] := by
        have := Holds.cells (n := 3) (o := 0) ⟨true, Same.get (S := fun _ => False) (Same.of_prefix hp3) hbox (fun h => h)⟩ (by simp)
        simpa using this
      cases hl : leftB (bs.take s) ⟨a, b, c⟩ with
      | false =>
        simp (maxSteps := 1000000) [go_sem]
        refine hbad H3 (hp.trans (hp2.trans hp3)) (fun hF => ?_)
        have := (leftB_iff hgt hgb).2 (fits_snoc.1 (htake ▸ fits_take hF (s + 1))).2
        rw [hl] at this; cases this
      | true =>
        simp (maxSteps := 1000000) [go_sem, d1]
        refine put_ok ((hgr.keep hp2).keep hp3) (by omega) (by omega) hc _ ?_
        intro H4 hs4 hg4
        simp (maxSteps := 1000000) [go_sem, hw_s]
        refine hK (s + 1, gPut true a b c 3 gs) _ _ (by simp only; omega) (by simp [upF, Fr.get, Up.refl]) ⟨by simp only; omega, ?_, hg4, ?_, ?_⟩
        · exact ((Same.of_prefix (hp.trans (hp2.trans hp3))).trans hs4).prefix (by omega)
        · simp only [htake]; exact gridOf_snoc hof hgt hab hbc hc hl
        · simp only [htake]; exact fits_snoc.2 ⟨hfit, (leftB_iff hgt hgb).1 hl⟩
    · have : s = bs.length := by omega
      subst this
      simp (maxSteps := 1000000) [go_sem]
      rw [List.take_length] at hof hfit
      exact hgood H' id gs hp hid hgr hof hfit

theorem sysGrid_ok {H : Heap} {u : Value} {p : Int} {bs : List Bk} (hu : BlocksAt H u bs) (hg : ∀ x ∈ bs, good 15 x = true) (hF : Fits bs) (Post : Value → Heap → Prop)
    (h : ∀ H' id gs, H <+: H' → H.length ≤ id → GridAt H' id gs → GridOf gs bs → Post (.pointer (some ⟨id, 0, none⟩)) H') :
    ACalls Try.prog 106 [sysV p u] H Post := by
  obtain ⟨i, o, rfl, h1, h2⟩ := hu
  refine acalls_vc (rs := [.tmp 2]) Try.func106 rfl rfl Try.ntmps106 rfl rfl ?_
  simp (maxSteps := 1000000) [go_sem, sysV, Value.oneCell']
  have hp1 : H <+: H ++ [⟨[.int .i64 p, lv 3 i o bs.length], true, true⟩] := List.prefix_append _ _
  refine gridOf_ok ⟨i, o, rfl, h1.pre hp1, h2⟩ hg _ (fun H' _ hn => absurd hF hn) ?_
  intro H' id gs hp hid hga hgo _
  simp (maxSteps := 1000000) [go_sem]
  exact h H' id gs (hp1.trans hp) (by have := hp1.length_le; omega) hga hgo

theorem sorted_snoc {p : Int} {bs : List Bk} {s : Nat} (hs : s < bs.length) (h : ∀ (a : Nat) (x : Bk), a < s → bs[a]? = some x → good p x = true ∧ ∀ y, 0 < a → bs[a - 1]? = some y → before y x = true)
    (hg : good p bs[s] = true) (hb : ∀ y, 0 < s → bs[s - 1]? = some y → before y bs[s] = true) : ∀ (a : Nat) (x : Bk), a < s + 1 → bs[a]? = some x → good p x = true ∧ ∀ y, 0 < a → bs[a - 1]? = some y → before y x = true := by
  intro a x ha hx
  by_cases e : a = s
  · subst e
    rw [List.getElem?_eq_getElem hs] at hx; cases hx
    exact ⟨hg, hb⟩
  · exact h a x (by omega) hx

theorem areBlocks_ok {H : Heap} {u : Value} {p : Int} {bs : List Bk} (hu : BlocksAt H u bs) (Post : Value → Heap → Prop) (h : ∀ H' b, H <+: H' → (b = true ↔ IsSys p bs) → Post (.bool b) H') :
    ACalls Try.prog 93 [.int .i64 p, u] H Post := by
  obtain ⟨i, o, rfl, h1, h2⟩ := hu
  refine acalls_vc (rs := [.tmp 4]) Try.func93 rfl rfl Try.ntmps93 rfl rfl ?_
  simp (maxSteps := 1000000) [go_sem]
  refine within_ok _ ?_
  by_cases hin : 3 ≤ p ∧ p ≤ 15
  · by_cases hl35 : bs.length ≤ 35
    · have hgt : ¬ ((35 : Int) < bs.length) := by omega
      simp (maxSteps := 1000000) [go_sem, hin.1, hin.2, hgt]
      refine AWp.loopVc (fun s : Nat => [(0, .int .i64 p), (1, lv 3 i o bs.length), (17, lv 3 i o bs.length), (18, .int .i64 bs.length), (19, .int .i64 s)])
        (fun s H' => s ≤ bs.length ∧ H <+: H' ∧ ∀ (a : Nat) (x : Bk), a < s → bs[a]? = some x → good p x = true ∧ ∀ y, 0 < a → bs[a - 1]? = some y → before y x = true) (fun s => bs.length - s) 0 ?_ ?_ ?_
      · simp [upF, Fr.get, Up.refl]
      · exact ⟨by omega, List.prefix_refl _, by intro a x ha; omega⟩
      · rintro K s H' ⟨hs, hp, hf⟩ hK
        by_cases hlt : s < bs.length
        · have hbs : bs[s]? = some bs[s] := List.getElem?_eq_getElem hlt
          have c1 := (h1.pre hp).bk hbs
          simp only [Bk.cells] at c1
          have hw_s : IntKind.i64.wrap ((s : Int) + 1) = (s : Int) + 1 := i64w (by omega) (by omega)
          simp (maxSteps := 1000000) [go_sem, hlt, c1, Value.oneCell']
          refine AWp.draw mixed [(0, false), (1, false), (2, false), (3, false), (4, false), (5, false), (6, false), (7, false), (8, false), (9, false), (10, false), (11, false), (12, false), (13, false), (14, false), (15, false), (16, false), (17, false)] (by kernel_rfl) ?_
          simp (maxSteps := 1000000) [go_sem]
          refine isBlock_ok (b := bs[s]) (by omega) (by omega) _ ?_
          intro H2 hp2
          have hp2' : H' <+: H2 := (List.prefix_append _ _).trans hp2
          have hbox : H2[H'.length]? = some ⟨[.int .i64 bs[s].a, .int .i64 bs[s].b, .int .i64 bs[s].c], true, true⟩ := Same.get (S := fun _ => False) (Same.of_prefix hp2) (by simp) (fun h => h)
          have d1 : cellsAt H2 H'.length 0 3 = some [.int .i64 bs[s].a, .int .i64 bs[s].b, .int .i64 bs[s].c] := by
            simpa using Holds.cells (n := 3) (o := 0) ⟨true, hbox⟩ (by simp)
          by_cases hg : good p bs[s] = true
          · by_cases h0 : s = 0
            · subst h0
              simp (maxSteps := 1000000) [go_sem, hg, i64w (n := 1)]
              exact hK 1 _ _ (by omega) (by simp [upF, Fr.get, Up.refl]) ⟨by omega, hp.trans hp2', sorted_snoc hlt hf hg (by intro y hy; omega)⟩
            · obtain ⟨r, rfl⟩ : ∃ r, s = r + 1 := ⟨s - 1, by omega⟩
              have hbr : bs[r]? = some (bs[r]'(by omega)) := List.getElem?_eq_getElem _
              have e2 := (h1.pre (hp.trans hp2')).bk hbr
              simp only [Bk.cells] at e2
              have hr : r < bs.length := by omega
              have hw3 : IntKind.i64.wrap (r : Int) = (r : Int) := i64w (by omega) (by omega)
              have hw4 : IntKind.i64.wrap ((r : Int) + 1 + 1) = (r : Int) + 1 + 1 := i64w (by omega) (by omega)
              simp (maxSteps := 1000000) [go_sem, hg, d1, e2, hlt, hr, hw3]
              refine compare_ok (b := bs[r]'(by omega)) (d := bs[r + 1]) _ ?_
              intro H3 hp3
              by_cases hbf : before (bs[r]'(by omega)) bs[r + 1] = true
              · have hlx : decide (0 ≤ lexC [(bs[r]'(by omega)).a, (bs[r]'(by omega)).b, (bs[r]'(by omega)).c] [bs[r + 1].a, bs[r + 1].b, bs[r + 1].c]) = false := by
                  rw [decide_eq_false_iff_not, lexC_block, hbf]; simp
                simp (maxSteps := 1000000) [go_sem, hlx, hw4]
                refine hK (r + 1 + 1) _ _ (by omega) (by simp [upF, Fr.get, Up.refl]) ⟨by omega, hp.trans (hp2'.trans hp3), sorted_snoc hlt hf hg ?_⟩
                intro y _ hy
                simp only [Nat.add_sub_cancel] at hy
                rw [hbr] at hy; cases hy; exact hbf
              · have hlx : decide (0 ≤ lexC [(bs[r]'(by omega)).a, (bs[r]'(by omega)).b, (bs[r]'(by omega)).c] [bs[r + 1].a, bs[r + 1].b, bs[r + 1].c]) = true := by
                  rw [decide_eq_true_eq, lexC_block]; simpa using hbf
                simp (maxSteps := 1000000) [go_sem, hlx]
                refine h H3 false (hp.trans (hp2'.trans hp3)) ⟨by simp, fun hS => ?_⟩
                exact absurd ((hS.2.2.1 (r + 1) _ hbs).2 _ (by omega) (by simpa using hbr)) hbf
          · simp (maxSteps := 1000000) [go_sem, hg]
            refine h H2 false (hp.trans hp2') ⟨by simp, fun hS => ?_⟩
            exact absurd (hS.2.2.1 s _ hbs).1 hg
        · have : s = bs.length := by omega
          subst this
          have hso : Sorted p bs := fun a x hx => hf a x (List.getElem?_eq_some_iff.1 hx).1 hx
          have hg15 : ∀ x ∈ bs, good 15 x = true := by
            intro x hx
            obtain ⟨k, hk⟩ := List.mem_iff_getElem?.1 hx
            have := (hso k x hk).1
            rw [good_iff] at this ⊢; omega
          simp (maxSteps := 1000000) [go_sem]
          refine gridOf_ok ⟨i, o, rfl, h1.pre hp, h2⟩ hg15 _ (fun H2 hp2 hn => ?_) (fun H2 id gs hp2 _ _ _ hF => ?_)
          · simp (maxSteps := 1000000) [go_sem]
            exact h H2 false (hp.trans hp2) ⟨by simp, fun hS => absurd hS.2.2.2 hn⟩
          · simp (maxSteps := 1000000) [go_sem]
            exact h H2 true (hp.trans hp2) ⟨fun _ => ⟨hin, hl35, hso, hF⟩, fun _ => rfl⟩
    · have hgt : (35 : Int) < bs.length := by omega
      simp (maxSteps := 1000000) [go_sem, hin.1, hin.2, hgt]
      exact h H false (List.prefix_refl _) ⟨by simp, fun hS => absurd hS.2.1 hl35⟩
  · have hn : (decide (3 ≤ p) && decide (p ≤ 15)) = false := by simp; omega
    rw [hn]
    simp (maxSteps := 1000000) [go_sem]
    exact h H false (List.prefix_refl _) ⟨by simp, fun hS => absurd hS.1 hin⟩

theorem implIsSystem_ok {H : Heap} {u : Value} {p : Int} {bs : List Bk} (hu : BlocksAt H u bs) (Post : Value → Heap → Prop) (h : ∀ H' b, H <+: H' → (b = true ↔ IsSys p bs) → Post (.bool b) H') :
    ACalls Try.prog 33 [sysV p u] H Post := by
  obtain ⟨i, o, rfl, h1, h2⟩ := hu
  refine acalls_vc (rs := [.tmp 2]) Try.func33 rfl rfl Try.ntmps33 rfl rfl ?_
  simp (maxSteps := 1000000) [go_sem, sysV, Value.oneCell']
  have hp1 : H <+: H ++ [⟨[.int .i64 p, lv 3 i o bs.length], true, true⟩] := List.prefix_append _ _
  refine areBlocks_ok ⟨i, o, rfl, h1.pre hp1, h2⟩ _ ?_
  intro H' b hp hb
  simp (maxSteps := 1000000) [go_sem]
  exact h H' b (hp1.trans hp) hb

end Go.Proofs.Ytkgjdmbmdnmilaa
