/- Part 4 of what the proof of the law FnExactPartsOfTrade rests on: contracts of functions of the program, for every argument that each names; no statement of the seat is proved here. -/
import Derived.Test.YtdfeoccjllljiaaFnExactPartsOfTradePart3

section
/- What the specification's functions on systems compute. -/
set_option linter.all false
set_option maxRecDepth 20000
namespace Go.Proofs.Ytdfeoccjllljiaa
open Go.Ab

theorem l01Good_ok {H : Heap} {v : Int} {b : Bk} (Post : Value → Heap → Prop) (h : ∀ H', H <+: H' → Post (.bool (good v b)) H') :
    ACalls Try.prog 139 [.int .i64 v, b.val] H Post := by
  refine acalls_vc (rs := [.tmp 4]) Try.func139 rfl rfl Try.ntmps139 rfl rfl ?_
  obtain ⟨a, b, c⟩ := b
  have h := h _ (List.prefix_append H [⟨[.int .i64 a, .int .i64 b, .int .i64 c], true, true⟩])
  simp only [good] at h
  by_cases h1 : 0 ≤ a
  · by_cases h2 : a < b
    · by_cases h3 : b < c
      · simp (maxSteps := 1000000) [go_sem, Bk.val, Value.oneCell', h1, h2, h3] at h ⊢
        exact h
      · simp (maxSteps := 1000000) [go_sem, Bk.val, Value.oneCell', h1, h2, h3] at h ⊢
        exact h
    · simp (maxSteps := 1000000) [go_sem, Bk.val, Value.oneCell', h1, h2] at h ⊢
      exact h
  · simp (maxSteps := 1000000) [go_sem, Bk.val, Value.oneCell', h1] at h ⊢
    exact h

theorem l01Before_ok {H : Heap} {b d : Bk} (Post : Value → Heap → Prop) (h : ∀ H', H <+: H' → Post (.bool (before b d)) H') :
    ACalls Try.prog 140 [b.val, d.val] H Post := by
  refine acalls_vc (rs := [.tmp 4]) Try.func140 rfl rfl Try.ntmps140 rfl rfl ?_
  obtain ⟨b1, b2, b3⟩ := b
  obtain ⟨d1, d2, d3⟩ := d
  simp (maxSteps := 1000000) [go_sem, Bk.val, Value.oneCell']
  have h := h _ (List.prefix_append H [⟨[.int .i64 b1, .int .i64 b2, .int .i64 b3], true, true⟩, ⟨[.int .i64 d1, .int .i64 d2, .int .i64 d3], true, true⟩])
  simp only [before] at h
  refine AWp.loopVc (fun s : Nat => [(2, .pointer (some ⟨H.length, 0, none⟩)), (3, .pointer (some ⟨H.length + 1, 0, none⟩)), (5, .int .i64 s)])
    (fun s H' => s ≤ 3 ∧ H' = H ++ [⟨[.int .i64 b1, .int .i64 b2, .int .i64 b3], true, true⟩, ⟨[.int .i64 d1, .int .i64 d2, .int .i64 d3], true, true⟩] ∧ [b1, b2, b3].take s = [d1, d2, d3].take s) (fun s => 3 - s) 0 ?_ ?_ ?_
  · simp [upF, Fr.get, Up.refl]
  · simp
  · rintro K s H' ⟨hs, rfl, ht⟩ hK
    have cn : List (Nat × Bool) := []
    have : s = 0 ∨ s = 1 ∨ s = 2 ∨ s = 3 := by omega
    rcases this with rfl | rfl | rfl | rfl
    · simp (maxSteps := 1000000) [go_sem]
      refine AWp.draw mixed [(0, false), (1, false), (2, false), (3, false), (4, false), (5, false), (6, false)] (by kernel_rfl) ?_
      simp (maxSteps := 1000000) [go_sem, i64w (n := 1) (by omega) (by omega)]
      refine condK_intro (fun hne => ?_) (fun heq => ?_)
      · refine AWp.draw mixed [(0, false), (1, false), (2, false), (3, false), (4, false), (5, false), (6, false), (7, false)] (by kernel_rfl) ?_
        simp (maxSteps := 1000000) [go_sem]
        simp at hne; simpa [hne] using h
      · exact hK 1 _ _ (by omega) (by simp [upF, Fr.get, Up.refl]) ⟨by omega, rfl, by simpa using heq⟩
    · simp (maxSteps := 1000000) [go_sem]
      refine AWp.draw mixed [(0, false), (1, false), (2, false), (3, false), (4, false), (5, false), (6, false)] (by kernel_rfl) ?_
      simp (maxSteps := 1000000) [go_sem, i64w (n := 2) (by omega) (by omega)]
      refine condK_intro (fun hne => ?_) (fun heq => ?_)
      · refine AWp.draw mixed [(0, false), (1, false), (2, false), (3, false), (4, false), (5, false), (6, false), (7, false)] (by kernel_rfl) ?_
        simp (maxSteps := 1000000) [go_sem]
        simp at hne ht; simpa [hne, ht] using h
      · exact hK 2 _ _ (by omega) (by simp [upF, Fr.get, Up.refl]) ⟨by omega, rfl, by simp at ht heq; simp [ht, heq]⟩
    · simp (maxSteps := 1000000) [go_sem]
      refine AWp.draw mixed [(0, false), (1, false), (2, false), (3, false), (4, false), (5, false), (6, false)] (by kernel_rfl) ?_
      simp (maxSteps := 1000000) [go_sem, i64w (n := 3) (by omega) (by omega)]
      refine condK_intro (fun hne => ?_) (fun heq => ?_)
      · refine AWp.draw mixed [(0, false), (1, false), (2, false), (3, false), (4, false), (5, false), (6, false), (7, false)] (by kernel_rfl) ?_
        simp (maxSteps := 1000000) [go_sem]
        simp at hne ht; simpa [hne, ht] using h
      · exact hK 3 _ _ (by omega) (by simp [upF, Fr.get, Up.refl]) ⟨by omega, rfl, by simp at ht heq; simp [ht, heq]⟩
    · simp (maxSteps := 1000000) [go_sem]
      simp at ht
      simpa [ht] using h

theorem l01Common_ok {H : Heap} {b d : Bk} (Post : Value → Heap → Prop) (h : ∀ H', H <+: H' → Post (.int .i64 (common b d)) H') :
    ACalls Try.prog 160 [b.val, d.val] H Post := by
  refine acalls_vc (rs := [.tmp 4]) Try.func160 rfl rfl Try.ntmps160 rfl rfl ?_
  obtain ⟨b1, b2, b3⟩ := b
  obtain ⟨d1, d2, d3⟩ := d
  simp (maxSteps := 1000000) [go_sem, Bk.val, Value.oneCell']
  obtain ⟨H1, hH1⟩ : ∃ H1, H1 = H ++ [⟨[.int .i64 b1, .int .i64 b2, .int .i64 b3], true, true⟩, ⟨[.int .i64 d1, .int .i64 d2, .int .i64 d3], true, true⟩] := ⟨_, rfl⟩
  have h := h H1 (by rw [hH1]; exact List.prefix_append _ _)
  have l1 : ∀ i : Nat, i < 3 → cellsAt H1 H.length i 1 = some [.int .i64 (Bk.nth ⟨b1, b2, b3⟩ i)] := by
    intro i hi
    have : i = 0 ∨ i = 1 ∨ i = 2 := by omega
    rcases this with rfl | rfl | rfl <;> simp [hH1, go_sem, Bk.nth]
  have l2 : ∀ i : Nat, i < 3 → cellsAt H1 (H.length + 1) i 1 = some [.int .i64 (Bk.nth ⟨d1, d2, d3⟩ i)] := by
    intro i hi
    have : i = 0 ∨ i = 1 ∨ i = 2 := by omega
    rcases this with rfl | rfl | rfl <;> simp [hH1, go_sem, Bk.nth]
  rw [← hH1]
  refine AWp.loopVc (fun s : Nat => [(2, .pointer (some ⟨H.length, 0, none⟩)), (3, .pointer (some ⟨H.length + 1, 0, none⟩)), (5, .int .i64 (cnt ⟨b1, b2, b3⟩ ⟨d1, d2, d3⟩ s 0)), (6, .int .i64 s)])
    (fun s H' => s ≤ 3 ∧ H' = H1) (fun s => 3 - s) 0 ?_ ?_ ?_
  · simp [upF, Fr.get, Up.refl, cnt]
  · simp
  · rintro K s H' ⟨hs, rfl⟩ hK
    by_cases hlt : s < 3
    · have hlt' : (s : Int) < 3 := by omega
      simp (maxSteps := 1000000) [go_sem, hlt, hlt']
      refine AWp.loopVc (fun t : Nat => [(2, .pointer (some ⟨H.length, 0, none⟩)), (3, .pointer (some ⟨H.length + 1, 0, none⟩)), (5, .int .i64 (cnt ⟨b1, b2, b3⟩ ⟨d1, d2, d3⟩ s t)), (6, .int .i64 s), (7, .int .i64 t)])
        (fun t H2 => t ≤ 3 ∧ H2 = H') (fun t => 3 - t) 0 ?_ ?_ ?_
      · simp [upF, Fr.get, Up.refl]
      · simp
      · rintro K2 t H2 ⟨ht, rfl⟩ hK2
        by_cases htl : t < 3
        · have c1 := l1 s hlt
          have c2 := l2 t htl
          have hw : IntKind.i64.wrap ((t : Int) + 1) = (t : Int) + 1 := i64w (by omega) (by omega)
          have hle := cnt_le ⟨b1, b2, b3⟩ ⟨d1, d2, d3⟩ s t
          have hw2 : IntKind.i64.wrap ((cnt ⟨b1, b2, b3⟩ ⟨d1, d2, d3⟩ s t : Int) + 1) = (cnt ⟨b1, b2, b3⟩ ⟨d1, d2, d3⟩ s t : Int) + 1 := i64w (by omega) (by omega)
          have hst := cnt_succ ⟨b1, b2, b3⟩ ⟨d1, d2, d3⟩ s htl
          have htl' : (t : Int) < 3 := by omega
          simp (maxSteps := 1000000) [go_sem, htl, htl']
          refine AWp.draw mixed [(0, false), (1, false), (2, false), (3, false), (4, false), (5, false), (6, false)] (by kernel_rfl) ?_
          simp (maxSteps := 1000000) [go_sem, hlt, htl, hlt', htl', c1, c2, hw, hw2]
          refine condK_intro (fun heq => ?_) (fun hne => ?_)
          · refine hK2 (t + 1) _ _ (by omega) ?_ ⟨by omega, rfl⟩
            have : eq01 (Bk.nth ⟨b1, b2, b3⟩ s) (Bk.nth ⟨d1, d2, d3⟩ t) = 1 := by rw [eq01, if_pos (by simpa using heq)]
            simp [upF, Fr.get, Up.refl, hst, this]
          · refine hK2 (t + 1) _ _ (by omega) ?_ ⟨by omega, rfl⟩
            have : eq01 (Bk.nth ⟨b1, b2, b3⟩ s) (Bk.nth ⟨d1, d2, d3⟩ t) = 0 := by rw [eq01, if_neg (by simpa using hne)]
            simp [upF, Fr.get, Up.refl, hst, this]
        · have : t = 3 := by omega
          subst this
          have hw : IntKind.i64.wrap ((s : Int) + 1) = (s : Int) + 1 := i64w (by omega) (by omega)
          simp (maxSteps := 1000000) [go_sem, hw]
          refine hK (s + 1) _ _ (by omega) ?_ ⟨by omega, rfl⟩
          have := cnt_end ⟨b1, b2, b3⟩ ⟨d1, d2, d3⟩ hlt
          simp [upF, Fr.get, Up.refl, this]
    · have : s = 3 := by omega
      subst this
      simp (maxSteps := 1000000) [go_sem]
      rw [cnt_all]; exact h

theorem l01Fits_ok {H : Heap} {u : Value} {bs : List Bk} (hu : BlocksAt H u bs) (Post : Value → Heap → Prop) (h : ∀ H' b, H <+: H' → (b = true ↔ Fits bs) → Post (.bool b) H') :
    ACalls Try.prog 118 [u] H Post := by
  obtain ⟨i, o, rfl, h1, h2⟩ := hu
  refine acalls_vc (rs := [.tmp 2]) Try.func118 rfl rfl Try.ntmps118 rfl rfl ?_
  simp (maxSteps := 1000000) [go_sem]
  refine AWp.loopVc (fun s : Nat => [(0, lv 3 i o bs.length), (3, .int .i64 s)])
    (fun s H' => s ≤ bs.length ∧ H <+: H' ∧ ∀ (a k : Nat) (x y : Bk), a < s → k < a → bs[a]? = some x → bs[k]? = some y → common x y ≤ 1) (fun s => bs.length - s) 0 ?_ ?_ ?_
  · simp [upF, Fr.get, Up.refl]
  · exact ⟨by omega, List.prefix_refl _, by intro a k x y ha; omega⟩
  · rintro K s H' ⟨hs, hp, hf⟩ hK
    by_cases hlt : s < bs.length
    · have hbs : bs[s]? = some bs[s] := List.getElem?_eq_getElem hlt
      simp (maxSteps := 1000000) [go_sem, hlt]
      refine AWp.loopVc (fun t : Nat => [(0, lv 3 i o bs.length), (3, .int .i64 s), (4, .int .i64 t)])
        (fun t H2 => t ≤ s ∧ H <+: H2 ∧ ∀ (k : Nat) (y : Bk), k < t → bs[k]? = some y → common bs[s] y ≤ 1) (fun t => s - t) 0 ?_ ?_ ?_
      · simp [upF, Fr.get, Up.refl]
      · exact ⟨by omega, hp, by intro k y hk; omega⟩
      · rintro K2 t H2 ⟨ht, hp2, hft⟩ hK2
        by_cases htl : t < s
        · have hbt : bs[t]? = some (bs[t]'(by omega)) := List.getElem?_eq_getElem _
          have c1 := (h1.pre hp2).bk hbs
          have c2 := (h1.pre hp2).bk hbt
          simp only [Bk.cells] at c1 c2
          have hw : IntKind.i64.wrap ((t : Int) + 1) = (t : Int) + 1 := i64w (by omega) (by omega)
          have hlt2 : t < bs.length := by omega
          simp (maxSteps := 1000000) [go_sem, htl]
          refine AWp.draw mixed [(0, false), (1, false), (2, false), (3, false), (4, false), (5, false), (6, false), (7, false), (8, false), (9, false)] (by kernel_rfl) ?_
          simp (maxSteps := 1000000) [go_sem, hlt, hlt2, c1, c2]
          refine l01Common_ok (b := bs[s]) (d := bs[t]'(by omega)) _ ?_
          intro H3 hp3
          simp (maxSteps := 1000000) [go_sem, hw]
          refine condK_intro (fun hgt => ?_) (fun hle => ?_)
          · refine h H3 false (hp2.trans hp3) ⟨by simp, fun hF => ?_⟩
            have := hF s t _ _ htl hbs hbt
            simp at hgt; omega
          · refine hK2 (t + 1) _ _ (by omega) (by simp [upF, Fr.get, Up.refl]) ⟨by omega, hp2.trans hp3, fun k y hk hy => ?_⟩
            by_cases hkt : k = t
            · subst hkt
              rw [hbt] at hy; cases hy
              simp at hle; omega
            · exact hft k y (by omega) hy
        · have : t = s := by omega
          subst this
          have hw : IntKind.i64.wrap ((t : Int) + 1) = (t : Int) + 1 := i64w (by omega) (by omega)
          simp (maxSteps := 1000000) [go_sem, hw]
          refine hK (t + 1) _ _ (by omega) (by simp [upF, Fr.get, Up.refl]) ⟨by omega, hp2, fun a k x y ha hk hx hy => ?_⟩
          by_cases hat : a = t
          · subst hat
            rw [hbs] at hx; cases hx
            exact hft k y hk hy
          · exact hf a k x y (by omega) hk hx hy
    · have : s = bs.length := by omega
      subst this
      simp (maxSteps := 1000000) [go_sem]
      exact h H' true hp ⟨fun _ a k x y hk hx hy => hf a k x y (List.getElem?_eq_some_iff.1 hx).1 hk hx hy, fun _ => rfl⟩

theorem l01Is_ok {H : Heap} {u : Value} {p : Int} {bs : List Bk} (hu : BlocksAt H u bs) (hlen : bs.length ≤ 1048576) (Post : Value → Heap → Prop) (h : ∀ H' b, H <+: H' → (b = true ↔ IsSys p bs) → Post (.bool b) H') :
    ACalls Try.prog 76 [sysV p u] H Post := by
  obtain ⟨i, o, rfl, h1, h2⟩ := hu
  refine acalls_vc (rs := [.tmp 2]) Try.func76 rfl rfl Try.ntmps76 rfl rfl ?_
  simp (maxSteps := 1000000) [go_sem, sysV, Value.oneCell']
  refine l01In_ok _ ?_
  obtain ⟨H1, hH1⟩ : ∃ H1, H1 = H ++ [⟨[.int .i64 p, lv 3 i o bs.length], true, true⟩] := ⟨_, rfl⟩
  have hbox : H1[H.length]? = some ⟨[.int .i64 p, lv 3 i o bs.length], true, true⟩ := by rw [hH1]; simp
  have hp1 : H <+: H1 := by rw [hH1]; exact List.prefix_append _ _
  by_cases hin : 3 ≤ p ∧ p ≤ 15
  · by_cases hl35 : bs.length ≤ 35
    · have hgt : ¬ ((35 : Int) < bs.length) := by omega
      simp (maxSteps := 1000000) [go_sem, hin.1, hin.2, hgt]
      rw [← hH1]
      refine AWp.loopVc (fun s : Nat => [(1, .pointer (some ⟨H.length, 0, none⟩)), (3, .int .i64 s)])
        (fun s H' => s ≤ bs.length ∧ H1 <+: H' ∧ ∀ (a : Nat) (x : Bk), a < s → bs[a]? = some x → good p x = true ∧ ∀ y, 0 < a → bs[a - 1]? = some y → before y x = true) (fun s => bs.length - s) 0 ?_ ?_ ?_
      · simp [upF, Fr.get, Up.refl]
      · exact ⟨by omega, List.prefix_refl _, by intro a x ha; omega⟩
      · rintro K s H' ⟨hs, hp, hf⟩ hK
        have box : ∀ {H2 : Heap}, H1 <+: H2 → cellsAt H2 H.length 0 1 = some [.int .i64 p] ∧ cellsAt H2 H.length 1 1 = some [lv 3 i o bs.length] := by
          intro H2 hp2
          have := Same.get (S := fun _ => False) (Same.of_prefix hp2) hbox (fun h => h)
          exact ⟨Holds.cell ⟨true, this⟩ rfl, Holds.cell ⟨true, this⟩ rfl⟩
        obtain ⟨b0, b1⟩ := box hp
        by_cases hlt : s < bs.length
        · have hbs : bs[s]? = some bs[s] := List.getElem?_eq_getElem hlt
          have c1 := (h1.pre (hp1.trans hp)).bk hbs
          simp only [Bk.cells] at c1
          have hw : IntKind.i64.wrap ((s : Int) + 1) = (s : Int) + 1 := i64w (by omega) (by omega)
          simp (maxSteps := 1000000) [go_sem, hlt, b0, b1]
          refine AWp.draw mixed [(0, false), (1, false), (2, false), (3, false), (4, false), (5, false), (6, false), (7, false), (8, false), (9, false), (10, false), (11, false), (12, false), (13, false), (14, false), (15, false), (16, false), (17, false), (18, false), (19, false), (20, false), (21, false), (22, false), (23, false), (24, false), (25, false), (26, false), (27, false)] (by kernel_rfl) ?_
          simp (maxSteps := 1000000) [go_sem, hlt, b0, b1, c1]
          refine l01Good_ok (b := bs[s]) _ ?_
          intro H2 hp2
          by_cases hg : good p bs[s] = true
          · by_cases h0 : s = 0
            · subst h0
              simp (maxSteps := 1000000) [go_sem, hg, hw]
              refine hK 1 _ _ (by omega) (by simp [upF, Fr.get, Up.refl, i64w (n := 1)]) ⟨by omega, hp.trans hp2, fun a x ha hx => ?_⟩
              obtain rfl : a = 0 := by omega
              rw [hbs] at hx; cases hx
              exact ⟨hg, by omega⟩
            · have hs0 : 0 < s := by omega
              obtain ⟨r, rfl⟩ : ∃ r, s = r + 1 := ⟨s - 1, by omega⟩
              have hbr : bs[r]? = some (bs[r]'(by omega)) := List.getElem?_eq_getElem _
              obtain ⟨d0, d1⟩ := box (hp.trans hp2)
              have e1 := (h1.pre (hp1.trans (hp.trans hp2))).bk hbs
              have e2 := (h1.pre (hp1.trans (hp.trans hp2))).bk hbr
              simp only [Bk.cells] at e1 e2
              have hr : r < bs.length := by omega
              have hw3 : IntKind.i64.wrap (r : Int) = (r : Int) := i64w (by omega) (by omega)
              have hw4 : IntKind.i64.wrap ((r : Int) + 1 + 1) = (r : Int) + 1 + 1 := i64w (by omega) (by omega)
              simp (maxSteps := 1000000) [go_sem, hg, hw, d0, d1, e1, e2, hlt, hr, hw3]
              refine andK_intro (by omega) (l01Before_ok (b := bs[r]'(by omega)) (d := bs[r + 1]) _ ?_)
              intro H3 hp3
              by_cases hbf : before (bs[r]'(by omega)) bs[r + 1] = true
              · simp (maxSteps := 1000000) [go_sem, hbf, hw4]
                refine hK (r + 1 + 1) _ _ (by omega) (by simp [upF, Fr.get, Up.refl]) ⟨by omega, hp.trans (hp2.trans hp3), fun a x ha hx => ?_⟩
                by_cases har : a = r + 1
                · subst har
                  rw [hbs] at hx; cases hx
                  refine ⟨hg, fun y _ hy => ?_⟩
                  simp only [Nat.add_sub_cancel] at hy
                  rw [hbr] at hy; cases hy
                  exact hbf
                · exact hf a x (by omega) hx
              · simp (maxSteps := 1000000) [go_sem, hbf]
                refine h H3 false (hp1.trans (hp.trans (hp2.trans hp3))) ⟨by simp, fun hS => ?_⟩
                exact absurd ((hS.2.2.1 (r + 1) _ hbs).2 _ (by omega) (by simpa using hbr)) hbf
          · simp (maxSteps := 1000000) [go_sem, hg]
            refine h H2 false (hp1.trans (hp.trans hp2)) ⟨by simp, fun hS => ?_⟩
            exact absurd (hS.2.2.1 s _ hbs).1 hg
        · have : s = bs.length := by omega
          subst this
          simp (maxSteps := 1000000) [go_sem, b0, b1]
          refine l01Fits_ok ⟨i, o, rfl, h1.pre (hp1.trans hp), h2⟩ _ ?_
          intro H2 b hp2 hb
          simp (maxSteps := 1000000) [go_sem]
          refine h H2 b (hp1.trans (hp.trans hp2)) (hb.trans ⟨fun hF => ⟨hin, hl35, fun a x hx => hf a x (List.getElem?_eq_some_iff.1 hx).1 hx, hF⟩, fun hS => hS.2.2.2⟩)
    · have hgt : (35 : Int) < bs.length := by omega
      simp (maxSteps := 1000000) [go_sem, hin.1, hin.2, hgt]
      refine h _ false (List.prefix_append _ _) ⟨by simp, fun hS => absurd hS.2.1 hl35⟩
  · have hn : (decide (3 ≤ p) && decide (p ≤ 15)) = false := by simp; omega
    rw [hn]
    simp (maxSteps := 1000000) [go_sem]
    exact h _ false (List.prefix_append _ _) ⟨by simp, fun hS => absurd hS.1 hin⟩

end Go.Proofs.Ytdfeoccjllljiaa
end

section
/- What the program's functions on systems compute. -/
set_option linter.all false
set_option maxRecDepth 20000
namespace Go.Proofs.Ytdfeoccjllljiaa
open Go.Ab

theorem rises_ok {H : Heap} {u : Value} {xs : List Int} {n : Int} (hu : IntsAt H u xs) (hn : -9223372036854775807 ≤ n) (hn' : n ≤ 9223372036854775807) (Post : Value → Heap → Prop) (h : ∀ b : Bool, (b = true ↔ Rises n xs) → Post (.bool b) H) :
    ACalls Try.prog 162 [u, .int .i64 n] H Post := by
  obtain ⟨i, o, rfl, h1, h2⟩ := hu
  refine acalls_vc (rs := [.tmp 4]) Try.func162 rfl rfl Try.ntmps162 rfl rfl ?_
  simp (maxSteps := 1000000) [go_sem]
  refine AWp.loopVc (fun s : Nat => [(0, lv 1 i o xs.length), (1, .int .i64 n), (7, lv 1 i o xs.length), (8, .int .i64 xs.length), (9, .int .i64 s)])
    (fun s H' => s ≤ xs.length ∧ H' = H ∧ ∀ (a : Nat) (x : Int), a < s → xs[a]? = some x → (0 ≤ x ∧ x < n) ∧ ∀ y, 0 < a → xs[a - 1]? = some y → y < x) (fun s => xs.length - s) 0 ?_ ?_ ?_
  · simp [upF, Fr.get, Up.refl]
  · exact ⟨by omega, rfl, by intro a x ha; omega⟩
  · rintro K s H' ⟨hs, rfl, hf⟩ hK
    by_cases hlt : s < xs.length
    · have hx : xs[s]? = some xs[s] := List.getElem?_eq_getElem hlt
      have c1 := h1.cell (k := s) (v := .int .i64 xs[s]) (by simp [ints_get, hlt])
      have hw : IntKind.i64.wrap ((s : Int) + 1) = (s : Int) + 1 := i64w (by omega) (by omega)
      have hwn : IntKind.i64.wrap (n - 1) = n - 1 := i64w (by omega) (by omega)
      simp (maxSteps := 1000000) [go_sem, hlt, c1, hwn]
      refine within_ok _ ?_
      by_cases hin : 0 ≤ xs[s] ∧ xs[s] ≤ n - 1
      · by_cases h0 : s = 0
        · subst h0
          simp (maxSteps := 1000000) [go_sem, hin.1, hin.2, i64w (n := 1)]
          refine hK 1 _ _ (by omega) (by simp [upF, Fr.get, Up.refl]) ⟨by omega, rfl, fun a x ha hx' => ?_⟩
          obtain rfl : a = 0 := by omega
          rw [hx] at hx'; cases hx'
          exact ⟨by omega, by omega⟩
        · obtain ⟨r, rfl⟩ : ∃ r, s = r + 1 := ⟨s - 1, by omega⟩
          have hxr : xs[r]? = some (xs[r]'(by omega)) := List.getElem?_eq_getElem _
          have c2 := h1.cell (k := r) (v := .int .i64 (xs[r]'(by omega))) (by simp [ints_get, hxr])
          have hr : r < xs.length := by omega
          have hw3 : IntKind.i64.wrap (r : Int) = (r : Int) := i64w (by omega) (by omega)
          have hw4 : IntKind.i64.wrap ((r : Int) + 1 + 1) = (r : Int) + 1 + 1 := i64w (by omega) (by omega)
          simp (maxSteps := 1000000) [go_sem, hin.1, hin.2, hw3, hr, c2, hw4]
          refine condK_intro (fun hge => ?_) (fun hlt' => ?_)
          · refine h false ⟨by simp, fun hR => ?_⟩
            have := (hR (r + 1) _ hx).2 _ (by omega) hxr
            simp at hge; omega
          · refine hK (r + 1 + 1) _ _ (by omega) (by simp [upF, Fr.get, Up.refl]) ⟨by omega, rfl, fun a x ha hx' => ?_⟩
            by_cases har : a = r + 1
            · subst har
              rw [hx] at hx'; cases hx'
              refine ⟨by omega, fun y _ hy => ?_⟩
              simp only [Nat.add_sub_cancel] at hy
              rw [hxr] at hy; cases hy
              simpa using hlt'
            · exact hf a x (by omega) hx'
      · have hnin : (decide (0 ≤ xs[s]) && decide (xs[s] ≤ n - 1)) = false := by simp; omega
        rw [hnin]
        simp (maxSteps := 1000000) [go_sem]
        refine h false ⟨by simp, fun hR => ?_⟩
        have := (hR s _ hx).1
        omega
    · have : s = xs.length := by omega
      subst this
      simp (maxSteps := 1000000) [go_sem]
      exact h true ⟨fun _ a x hx => hf a x (List.getElem?_eq_some_iff.1 hx).1 hx, fun _ => rfl⟩

theorem isBlock_ok {H : Heap} {b : Bk} {v : Int} (hn : -9223372036854775807 ≤ v) (hn' : v ≤ 9223372036854775807) (Post : Value → Heap → Prop) (h : ∀ H', H <+: H' → Post (.bool (good v b)) H') :
    ACalls Try.prog 121 [b.val, .int .i64 v] H Post := by
  refine acalls_vc (rs := [.tmp 4]) Try.func121 rfl rfl Try.ntmps121 rfl rfl ?_
  simp (maxSteps := 1000000) [go_sem, Bk.val, Value.oneCell']
  have hat : At (H ++ [⟨[.int .i64 b.a, .int .i64 b.b, .int .i64 b.c], true, true⟩]) H.length 0 (ints [b.a, b.b, b.c]) := Holds.at ⟨true, by simp [ints]⟩
  refine ACalls.up (args' := [lv 1 H.length 0 3, .int .i64 v]) ⟨Up.ex (by omega) (.inr (by simp [go_sem])), Up.refl _ _, trivial⟩ ?_
  refine rises_ok (xs := [b.a, b.b, b.c]) ⟨H.length, 0, rfl, hat, by simp⟩ hn hn' _ ?_
  intro r hr
  simp (maxSteps := 1000000) [go_sem]
  have : r = good v b := by
    rw [rises_block] at hr
    cases r <;> cases hg : good v b <;> simp_all
  rw [this]
  exact h _ (List.prefix_append _ _)

theorem isNaN_ok {H : Heap} {x : Int} (Post : Value → Heap → Prop) (h : Post (.bool false) H) :
    ACalls Try.prog 188 [.int .i64 x] H Post := by
  refine acalls_vc (rs := [.tmp 2]) Try.func188 rfl rfl Try.ntmps188 rfl rfl ?_
  simp (maxSteps := 1000000) [go_sem]
  exact h

theorem cmpCompare_ok {H : Heap} {x y : Int} (Post : Value → Heap → Prop) (h : Post (.int .i64 (if x < y then -1 else if y < x then 1 else 0)) H) :
    ACalls Try.prog 177 [.int .i64 x, .int .i64 y] H Post := by
  refine acalls_vc (rs := [.tmp 4]) Try.func177 rfl rfl Try.ntmps177 rfl rfl ?_
  simp (maxSteps := 1000000) [go_sem]
  refine isNaN_ok _ ?_
  simp (maxSteps := 1000000) [go_sem]
  refine isNaN_ok _ ?_
  simp (maxSteps := 1000000) [go_sem]
  refine condK_intro (fun h1 => ?_) (fun h1 => ?_)
  · rw [if_pos (by simpa using h1)] at h; exact h
  · rw [if_neg (by simpa using h1)] at h
    refine condK_intro (fun h2 => ?_) (fun h2 => ?_)
    · rw [if_pos (by simpa using h2)] at h; exact h
    · rw [if_neg (by simpa using h2)] at h; exact h

theorem slicesCompare_ok {H : Heap} {u v : Value} {xs ys : List Int} (hu : IntsAt H u xs) (hv : IntsAt H v ys) (Post : Value → Heap → Prop) (h : Post (.int .i64 (lexC xs ys)) H) :
    ACalls Try.prog 149 [u, v] H Post := by
  obtain ⟨i, o, rfl, h1, h2⟩ := hu
  obtain ⟨j, q, rfl, h3, h4⟩ := hv
  refine acalls_vc (rs := [.tmp 4]) Try.func149 rfl rfl Try.ntmps149 rfl rfl ?_
  simp (maxSteps := 1000000) [go_sem]
  refine AWp.loopVc (fun s : Nat => [(0, lv 1 i o xs.length), (1, lv 1 j q ys.length), (9, lv 1 i o xs.length), (10, .int .i64 xs.length), (11, .int .i64 s)])
    (fun s H' => s ≤ xs.length ∧ s ≤ ys.length ∧ H' = H ∧ lexC xs ys = lexC (xs.drop s) (ys.drop s)) (fun s => xs.length - s) 0 ?_ ?_ ?_
  · simp [upF, Fr.get, Up.refl]
  · exact ⟨by omega, by omega, rfl, by simp⟩
  · rintro K s H' ⟨hs, hs', rfl, hf⟩ hK
    by_cases hlt : s < xs.length
    · have hdx : xs.drop s = xs[s] :: xs.drop (s + 1) := List.drop_eq_getElem_cons hlt
      have c1 := h1.cell (k := s) (v := .int .i64 xs[s]) (by simp [ints_get, hlt])
      have hw : IntKind.i64.wrap ((s : Int) + 1) = (s : Int) + 1 := i64w (by omega) (by omega)
      by_cases hly : s < ys.length
      · have hdy : ys.drop s = ys[s] :: ys.drop (s + 1) := List.drop_eq_getElem_cons hly
        have c2 := h3.cell (k := s) (v := .int .i64 ys[s]) (by simp [ints_get, hly])
        have hly' : ¬ ys.length ≤ s := by omega
        simp (maxSteps := 1000000) [go_sem, hlt, hly, hly', c1, c2]
        refine cmpCompare_ok _ ?_
        rw [hdx, hdy] at hf
        simp only [lexC] at hf
        by_cases hxy : xs[s] < ys[s]
        · rw [if_pos hxy] at hf ⊢
          simp (maxSteps := 1000000) [go_sem]
          rw [hf] at h; exact h
        · rw [if_neg hxy] at hf ⊢
          by_cases hyx : ys[s] < xs[s]
          · rw [if_pos hyx] at hf ⊢
            simp (maxSteps := 1000000) [go_sem]
            rw [hf] at h; exact h
          · rw [if_neg hyx] at hf ⊢
            simp (maxSteps := 1000000) [go_sem, hw]
            exact hK (s + 1) _ _ (by omega) (by simp [upF, Fr.get, Up.refl]) ⟨by omega, by omega, rfl, hf⟩
      · have hly' : ys.length ≤ s := by omega
        simp (maxSteps := 1000000) [go_sem, hlt, hly', c1]
        rw [hdx, List.drop_eq_nil_of_le hly'] at hf
        simp only [lexC] at hf
        rw [hf] at h; exact h
    · have : s = xs.length := by omega
      subst this
      simp (maxSteps := 1000000) [go_sem]
      rw [List.drop_eq_nil_of_le (Nat.le_refl _)] at hf
      refine condK_intro (fun hl => ?_) (fun hl => ?_)
      · have hl : xs.length < ys.length := by simpa using hl
        rw [List.drop_eq_getElem_cons hl] at hf
        simp only [lexC] at hf
        rw [hf] at h; exact h
      · have hl : ys.length ≤ xs.length := by simpa using hl
        rw [List.drop_eq_nil_of_le hl] at hf
        simp only [lexC] at hf
        rw [hf] at h; exact h

theorem compare_ok {H : Heap} {b d : Bk} (Post : Value → Heap → Prop) (h : ∀ H', H <+: H' → Post (.int .i64 (lexC [b.a, b.b, b.c] [d.a, d.b, d.c])) H') :
    ACalls Try.prog 170 [b.val, d.val] H Post := by
  refine acalls_vc (rs := [.tmp 4]) Try.func170 rfl rfl Try.ntmps170 rfl rfl ?_
  simp (maxSteps := 1000000) [go_sem, Bk.val, Value.oneCell']
  refine AWp.draw mixed [(0, false), (1, false), (2, false), (3, false)] (by kernel_rfl) ?_
  simp (maxSteps := 1000000) [go_sem]
  have ha : Holds (H ++ [⟨[.int .i64 b.a, .int .i64 b.b, .int .i64 b.c], true, true⟩, ⟨[.int .i64 d.a, .int .i64 d.b, .int .i64 d.c], true, true⟩]) H.length (ints [b.a, b.b, b.c]) := ⟨true, by simp [ints]⟩
  have hd : Holds (H ++ [⟨[.int .i64 b.a, .int .i64 b.b, .int .i64 b.c], true, true⟩, ⟨[.int .i64 d.a, .int .i64 d.b, .int .i64 d.c], true, true⟩]) (H.length + 1) (ints [d.a, d.b, d.c]) := ⟨true, by simp [ints]⟩
  refine ACalls.up (args' := [lv 1 H.length 0 3, lv 1 (H.length + 1) 0 3]) ⟨Up.ex (by omega) (.inr (by simp [go_sem])), Up.ex (by omega) (.inr (by simp [go_sem])), trivial⟩ ?_
  refine slicesCompare_ok (xs := [b.a, b.b, b.c]) (ys := [d.a, d.b, d.c]) ⟨H.length, 0, rfl, ha.at, by simp⟩ ⟨H.length + 1, 0, rfl, hd.at, by simp⟩ _ ?_
  simp (maxSteps := 1000000) [go_sem]
  exact h _ (List.prefix_append _ _)

end Go.Proofs.Ytdfeoccjllljiaa
end

section
/- The grid of third points in plain terms: what its entries are, and when a block fits. No program is in sight here. -/
set_option linter.all false
namespace Go.Ab

/-- A block has a point. -/
def Bk.has (b : Bk) (p : Int) : Bool := decide (b.a = p) || (decide (b.b = p) || decide (b.c = p))
theorem Bk.has_iff {b : Bk} {p : Int} : b.has p = true ↔ (b.a = p ∨ b.b = p ∨ b.c = p) := by simp [Bk.has]

/-- The third point of two, and -1 if there is none. -/
def third (bs : List Bk) (p q : Int) : Int :=
  match bs.find? (fun c => c.has p && c.has q) with
  | some c => c.a + c.b + c.c - p - q
  | none => -1

theorem good_iff {v : Int} {b : Bk} : good v b = true ↔ 0 ≤ b.a ∧ b.a < b.b ∧ b.b < b.c ∧ b.c < v := by
  simp only [good, Bool.and_eq_true, decide_eq_true_eq, and_assoc]

theorem third_value {v : Int} {c : Bk} {p q : Int} (hc : good v c = true) (hpq : p ≠ q) (hp : c.has p = true) (hq : c.has q = true) :
    0 ≤ c.a + c.b + c.c - p - q ∧ c.a + c.b + c.c - p - q < v ∧ c.has (c.a + c.b + c.c - p - q) = true ∧ c.a + c.b + c.c - p - q ≠ p ∧ c.a + c.b + c.c - p - q ≠ q := by
  rw [good_iff] at hc
  rw [Bk.has_iff] at hp hq ⊢
  obtain ⟨h1, h2, h3, h4⟩ := hc
  refine ⟨?_, ?_, ?_, ?_, ?_⟩ <;> rcases hp with hp | hp | hp <;> rcases hq with hq | hq | hq <;> omega

theorem third_neg {v : Int} {bs : List Bk} (hg : ∀ x ∈ bs, good v x = true) {p q : Int} (hpq : p ≠ q) : third bs p q = -1 ↔ ∀ x ∈ bs, ¬ (x.has p = true ∧ x.has q = true) := by
  unfold third
  cases hf : bs.find? (fun c => c.has p && c.has q) with
  | none =>
    simp only [true_iff]
    intro x hx h
    have := List.find?_eq_none.1 hf x hx
    simp [h.1, h.2] at this
  | some c =>
    have h1 := List.find?_some hf
    have h2 := List.mem_of_find?_eq_some hf
    simp only [Bool.and_eq_true] at h1
    have := third_value (hg c h2) hpq h1.1 h1.2
    constructor
    · intro h
      have h : c.a + c.b + c.c - p - q = -1 := h
      omega
    · intro h; exact absurd h1 (h c h2)

theorem third_comm (bs : List Bk) (p q : Int) : third bs p q = third bs q p := by
  unfold third
  rw [show (fun c : Bk => c.has p && c.has q) = (fun c => c.has q && c.has p) from funext fun c => Bool.and_comm _ _]
  split <;> omega

theorem third_snoc {bs : List Bk} {b : Bk} {p q : Int} : third (bs ++ [b]) p q = match bs.find? (fun c => c.has p && c.has q) with
    | some c => c.a + c.b + c.c - p - q
    | none => if b.has p && b.has q then b.a + b.b + b.c - p - q else -1 := by
  unfold third
  rw [List.find?_append]
  cases bs.find? (fun c => c.has p && c.has q) with
  | some c => rfl
  | none =>
    simp only [Option.none_or, List.find?_cons]
    cases b.has p && b.has q <;> rfl

theorem third_snoc_in {v : Int} {bs : List Bk} {b : Bk} (hg : ∀ x ∈ bs, good v x = true) {p q : Int} (hpq : p ≠ q) (hp : b.has p = true) (hq : b.has q = true) (hn : third bs p q = -1) : third (bs ++ [b]) p q = b.a + b.b + b.c - p - q := by
  have h := (third_neg hg hpq).1 hn
  rw [third_snoc]
  cases hf : bs.find? (fun c => c.has p && c.has q) with
  | none => simp [hp, hq]
  | some c =>
    have h1 := List.find?_some hf
    simp only [Bool.and_eq_true] at h1
    exact absurd h1 (h c (List.mem_of_find?_eq_some hf))

theorem third_snoc_out {bs : List Bk} {b : Bk} {p q : Int} (h : ¬ (b.has p = true ∧ b.has q = true)) : third (bs ++ [b]) p q = third bs p q := by
  rw [third_snoc]
  unfold third
  have : (b.has p && b.has q) = false := by
    cases hp : b.has p <;> cases hq : b.has q <;> simp_all
  cases bs.find? (fun c => c.has p && c.has q) with
  | none => simp [this]
  | some c => rfl

/-- How often a block has a point. -/
def hasN (x : Bk) (p : Int) : Nat := eq01 x.a p + eq01 x.b p + eq01 x.c p
theorem hasN_eq {v : Int} {x : Bk} (hx : good v x = true) (p : Int) : hasN x p = if x.has p then 1 else 0 := by
  rw [good_iff] at hx
  simp only [hasN, eq01, Bk.has_iff]
  split <;> split <;> split <;> split <;> omega
theorem common_eq (x y : Bk) : common x y = hasN x y.a + hasN x y.b + hasN x y.c := by
  simp only [common, hasN]; omega
theorem common_le_one {v w : Int} {x y : Bk} (hx : good v x = true) :
    common x y ≤ 1 ↔ ¬ (x.has y.a = true ∧ x.has y.b = true) ∧ ¬ (x.has y.a = true ∧ x.has y.c = true) ∧ ¬ (x.has y.b = true ∧ x.has y.c = true) := by
  rw [common_eq, hasN_eq hx, hasN_eq hx, hasN_eq hx]
  cases x.has y.a <;> cases x.has y.b <;> cases x.has y.c <;> simp

theorem common_comm (x y : Bk) : common x y = common y x := by
  have : ∀ a b : Int, eq01 a b = eq01 b a := by intro a b; simp only [eq01]; split <;> split <;> omega
  simp only [common, this y.a, this y.b, this y.c]
  omega

/-- A block can be put in: its three pairs are left. -/
def leftB (bs : List Bk) (b : Bk) : Bool := decide (third bs b.a b.b = -1) && (decide (third bs b.a b.c = -1) && decide (third bs b.b b.c = -1))
theorem leftB_iff {v w : Int} {bs : List Bk} (hg : ∀ x ∈ bs, good v x = true) {b : Bk} (hb : good w b = true) : leftB bs b = true ↔ ∀ x ∈ bs, common x b ≤ 1 := by
  have hb' := good_iff.1 hb
  simp only [leftB, Bool.and_eq_true, decide_eq_true_eq]
  rw [third_neg hg (by omega), third_neg hg (by omega), third_neg hg (by omega)]
  constructor
  · intro h x hx
    exact (common_le_one (w := w) (hg x hx)).2 ⟨h.1 x hx, h.2.1 x hx, h.2.2 x hx⟩
  · intro h
    refine ⟨fun x hx => ?_, fun x hx => ?_, fun x hx => ?_⟩
    · exact ((common_le_one (w := w) (hg x hx)).1 (h x hx)).1
    · exact ((common_le_one (w := w) (hg x hx)).1 (h x hx)).2.1
    · exact ((common_le_one (w := w) (hg x hx)).1 (h x hx)).2.2

theorem fits_snoc {bs : List Bk} {b : Bk} : Fits (bs ++ [b]) ↔ Fits bs ∧ ∀ x ∈ bs, common x b ≤ 1 := by
  constructor
  · intro h
    refine ⟨fun i k x y hk hx hy => ?_, fun x hx => ?_⟩
    · have h1 := (List.getElem?_eq_some_iff.1 hx).1
      exact h i k x y hk (by rw [List.getElem?_append_left h1]; exact hx) (by rw [List.getElem?_append_left (by omega)]; exact hy)
    · obtain ⟨k, hk⟩ := List.mem_iff_getElem?.1 hx
      have h1 := (List.getElem?_eq_some_iff.1 hk).1
      have := h bs.length k b x h1 (by simp) (by rw [List.getElem?_append_left h1]; exact hk)
      rw [common_comm]; exact this
  · rintro ⟨h, hb⟩ i k x y hk hx hy
    have hi := (List.getElem?_eq_some_iff.1 hx).1
    simp only [List.length_append, List.length_singleton] at hi
    rw [List.getElem?_append_left (by omega)] at hy
    by_cases e : i < bs.length
    · rw [List.getElem?_append_left e] at hx
      exact h i k x y hk hx hy
    · have : i = bs.length := by omega
      subst this
      simp at hx; subst hx
      rw [common_comm]; exact hb y (List.mem_of_getElem? hy)

theorem fits_take {bs : List Bk} (h : Fits bs) (n : Nat) : Fits (bs.take n) := by
  intro i k x y hk hx hy
  rw [List.getElem?_take] at hx hy
  split at hx
  · split at hy
    · exact h i k x y hk hx hy
    · cases hy
  · cases hx

/-- The entry at two points. -/
def gAt (gs : List Int) (p q : Nat) : Int := gs.getD (p * 15 + q) 0
/-- A pair's entries, both ways. -/
def gSet (gs : List Int) (p q : Nat) (n : Int) : List Int := (gs.set (p * 15 + q) n).set (q * 15 + p) n

theorem gSet_length (gs : List Int) (p q : Nat) (n : Int) : (gSet gs p q n).length = gs.length := by simp [gSet]
theorem gAt_set {gs : List Int} (hl : gs.length = 225) {a b p q : Nat} (ha : a < 15) (hb : b < 15) (hp : p < 15) (hq : q < 15) (n : Int) :
    gAt (gSet gs a b n) p q = if (p = a ∧ q = b) ∨ (p = b ∧ q = a) then n else gAt gs p q := by
  simp only [gAt, gSet, List.getD_eq_getElem?_getD, List.getElem?_set, List.length_set]
  by_cases h1 : b * 15 + a = p * 15 + q
  · rw [if_pos h1, if_pos (by omega), if_pos (by omega)]; rfl
  · rw [if_neg h1]
    by_cases h2 : a * 15 + b = p * 15 + q
    · rw [if_pos h2, if_pos (by omega), if_pos (by omega)]; rfl
    · rw [if_neg h2, if_neg (by omega)]

/-- The grid of some blocks. -/
def GridOf (gs : List Int) (bs : List Bk) : Prop := gs.length = 225 ∧ ∀ p q : Nat, p < 15 → q < 15 → gAt gs p q = if p = q then -1 else third bs p q

theorem gridOf_nil : GridOf (List.replicate 225 (-1)) [] := by
  refine ⟨List.length_replicate, fun p q hp hq => ?_⟩
  simp only [gAt, List.getD_eq_getElem?_getD, List.getElem?_replicate, third, List.find?_nil]
  rw [if_pos (by omega)]
  split <;> rfl

theorem gridOf_snoc {gs : List Int} {bs : List Bk} (h : GridOf gs bs) (hg : ∀ x ∈ bs, good 15 x = true) {a b c : Nat} (hab : a < b) (hbc : b < c) (hc : c < 15) (hl : leftB bs ⟨a, b, c⟩ = true) :
    GridOf (gSet (gSet (gSet gs a b (c : Int)) b c (a : Int)) c a (b : Int)) (bs ++ [⟨a, b, c⟩]) := by
  obtain ⟨hl0, h⟩ := h
  simp only [leftB, Bool.and_eq_true, decide_eq_true_eq] at hl
  refine ⟨by simp [gSet_length, hl0], fun p q hp hq => ?_⟩
  rw [gAt_set (by simp [gSet_length, hl0]) hc (by omega) hp hq, gAt_set (by simp [gSet_length, hl0]) (by omega) hc hp hq, gAt_set hl0 (by omega) (by omega) hp hq, h p q hp hq]
  have hac := hl.2.1
  have hca : third bs (c : Int) (a : Int) = -1 := by rw [third_comm]; exact hac
  by_cases e : p = q
  · subst e
    rw [if_neg (by omega), if_neg (by omega), if_neg (by omega), if_pos rfl, if_pos rfl]
  · rw [if_neg e, if_neg e]
    by_cases h1 : (p = c ∧ q = a) ∨ (p = a ∧ q = c)
    · rw [if_pos h1, third_snoc_in hg (by omega) (by rw [Bk.has_iff]; simp only; omega) (by rw [Bk.has_iff]; simp only; omega)]
      · simp only; omega
      · rcases h1 with ⟨rfl, rfl⟩ | ⟨rfl, rfl⟩
        · exact hca
        · exact hac
    · rw [if_neg h1]
      by_cases h2 : (p = b ∧ q = c) ∨ (p = c ∧ q = b)
      · rw [if_pos h2, third_snoc_in hg (by omega) (by rw [Bk.has_iff]; simp only; omega) (by rw [Bk.has_iff]; simp only; omega)]
        · simp only; omega
        · rcases h2 with ⟨rfl, rfl⟩ | ⟨rfl, rfl⟩
          · exact hl.2.2
          · rw [third_comm]; exact hl.2.2
      · rw [if_neg h2]
        by_cases h3 : (p = a ∧ q = b) ∨ (p = b ∧ q = a)
        · rw [if_pos h3, third_snoc_in hg (by omega) (by rw [Bk.has_iff]; simp only; omega) (by rw [Bk.has_iff]; simp only; omega)]
          · simp only; omega
          · rcases h3 with ⟨rfl, rfl⟩ | ⟨rfl, rfl⟩
            · exact hl.1
            · rw [third_comm]; exact hl.1
        · rw [if_neg h3, third_snoc_out]
          rw [Bk.has_iff, Bk.has_iff]; simp only; omega

theorem gridOf_left {gs : List Int} {bs : List Bk} (h : GridOf gs bs) {a b c : Nat} (hab : a < b) (hbc : b < c) (hc : c < 15) :
    (decide (gAt gs a b = -1) && (decide (gAt gs a c = -1) && decide (gAt gs b c = -1))) = leftB bs ⟨a, b, c⟩ := by
  rw [h.2 a b (by omega) (by omega), h.2 a c (by omega) (by omega), h.2 b c (by omega) (by omega), if_neg (by omega), if_neg (by omega), if_neg (by omega)]
  rfl

end Go.Ab
end

section
/- The grid of third points: what the program's functions on it compute. -/
set_option linter.all false
set_option maxRecDepth 20000
namespace Go.Proofs.Ytdfeoccjllljiaa
open Go.Ab

/-- The grid behind an id. -/
def GridAt (H : Heap) (id : Nat) (gs : List Int) : Prop := H[id]? = some ⟨ints gs, true, true⟩ ∧ gs.length = 225

theorem GridAt.load {H : Heap} {id : Nat} {gs : List Int} (h : GridAt H id gs) {k : Nat} (hk : k < 225) : cellsAt H id k 1 = some [.int .i64 (gs.getD k 0)] := by
  refine Holds.cell ⟨true, h.1⟩ ?_
  have := h.2
  rw [ints_get, List.getD_eq_getElem?_getD, List.getElem?_eq_getElem (by omega)]
  rfl

theorem GridAt.store {H : Heap} {id : Nat} {gs : List Int} (h : GridAt H id gs) {k : Nat} (hk : k < 225) (n : Int) :
    storeAt H id k [.int .i64 n] = some (H.set id ⟨ints (gs.set k n), true, true⟩) ∧ GridAt (H.set id ⟨ints (gs.set k n), true, true⟩) id (gs.set k n) := by
  have hl := h.2
  refine ⟨?_, by rw [List.getElem?_set_self (List.getElem?_eq_some_iff.1 h.1).1], by simpa using hl⟩
  rw [storeAt_of h.1 rfl rfl (by simp only [ints_length, List.length_singleton]; omega) (by simp [Value.oneCell']), over_one (by simp only [ints_length]; omega), ints_set]

theorem newGrid_ok {H : Heap} (Post : Value → Heap → Prop) (h : ∀ H' id, H <+: H' → H.length ≤ id → GridAt H' id (List.replicate 225 (-1)) → Post (.pointer (some ⟨id, 0, none⟩)) H') :
    ACalls Try.prog 163 [] H Post := by
  refine acalls_vc (rs := [.tmp 0]) Try.func163 rfl rfl Try.ntmps163 rfl rfl ?_
  simp (maxSteps := 1000000) [go_sem, -List.reduceReplicate]
  have hz : List.replicate 225 (Value.int .i64 0) = ints (List.replicate 225 0) := by simp only [ints, List.map_replicate]
  rw [hz]
  have hg0 : GridAt (H ++ [⟨ints (List.replicate 225 0), true, true⟩]) H.length (List.replicate 225 0) := ⟨by simp only [List.getElem?_concat_length], List.length_replicate⟩
  have hp0 : H <+: H ++ [⟨ints (List.replicate 225 0), true, true⟩] := List.prefix_append _ _
  generalize H ++ [⟨ints (List.replicate 225 0), true, true⟩] = H1 at hg0 hp0 ⊢
  have hset : ∀ m, m < 225 → (List.replicate m (-1 : Int) ++ List.replicate (225 - m) 0).set m (-1) = List.replicate (m + 1) (-1) ++ List.replicate (225 - (m + 1)) 0 := by
    intro m hm
    rw [List.set_append_right _ _ (by rw [List.length_replicate]; exact Nat.le_refl _), List.length_replicate, Nat.sub_self, show 225 - m = (225 - (m + 1)) + 1 by omega, List.replicate_succ, List.set_cons_zero, ← List.replicate_append_replicate, List.append_assoc]
    rfl
  have keep : ∀ {H' : Heap} {b : Blk}, H <+: H' → H <+: H'.set H.length b := fun hp =>
    (show Same (fun j => j = H.length) H _ from (Same.of_prefix hp).trans Same.set).prefix (by omega)
  refine AWp.loopVc (fun s : Nat => [(1, .pointer (some ⟨H.length, 0, none⟩)), (4, .int .i64 s)])
    (fun s H' => s ≤ 15 ∧ H <+: H' ∧ GridAt H' H.length (List.replicate (s * 15) (-1) ++ List.replicate (225 - s * 15) 0)) (fun s => 15 - s) 0 ?_ ?_ ?_
  · simp [upF, Fr.get, Up.refl]
  · exact ⟨by omega, hp0, by simpa only [Nat.zero_mul, List.replicate_zero, List.nil_append, Nat.sub_zero] using hg0⟩
  · rintro K s H' ⟨hs, hp, hg⟩ hK
    by_cases hlt : s < 15
    · have hlt' : (s : Int) < 15 := by omega
      simp (maxSteps := 1000000) [go_sem, hlt, hlt']
      refine AWp.loopVc (fun t : Nat => [(1, .pointer (some ⟨H.length, 0, none⟩)), (2, .int .i64 s), (4, .int .i64 s), (7, .int .i64 t)])
        (fun t H2 => t ≤ 15 ∧ H <+: H2 ∧ GridAt H2 H.length (List.replicate (s * 15 + t) (-1) ++ List.replicate (225 - (s * 15 + t)) 0)) (fun t => 15 - t) 0 ?_ ?_ ?_
      · simp [upF, Fr.get, Up.refl]
      · exact ⟨by omega, hp, by simpa only [Nat.add_zero] using hg⟩
      · rintro K2 t H2 ⟨ht, hp2, hg2⟩ hK2
        by_cases htl : t < 15
        · have htl' : (t : Int) < 15 := by omega
          have hw : IntKind.i64.wrap ((t : Int) + 1) = (t : Int) + 1 := i64w (by omega) (by omega)
          obtain ⟨hst, hg3⟩ := hg2.store (k := s * 15 + t) (by omega) (-1)
          rw [hset _ (by omega)] at hst hg3
          rw [show 225 - (s * 15 + t + 1) = 224 - (s * 15 + t) by omega] at hst hg3
          simp (maxSteps := 1000000) [go_sem, hlt, hlt', htl, htl', hw, Value.oneCell', hst, -List.reduceReplicate]
          exact hK2 (t + 1) _ _ (by omega) (by simp [upF, Fr.get, Up.refl]) ⟨by omega, keep hp2, by rw [show 225 - (s * 15 + (t + 1)) = 224 - (s * 15 + t) by omega]; exact hg3⟩
        · have : t = 15 := by omega
          subst this
          have hw : IntKind.i64.wrap ((s : Int) + 1) = (s : Int) + 1 := i64w (by omega) (by omega)
          simp (maxSteps := 1000000) [go_sem, hw]
          refine hK (s + 1) _ _ (by omega) (by simp [upF, Fr.get, Up.refl]) ⟨by omega, hp2, ?_⟩
          rw [Nat.add_mul, Nat.one_mul]; exact hg2
    · have : s = 15 := by omega
      subst this
      simp (maxSteps := 1000000) [go_sem]
      exact h H' H.length hp (Nat.le_refl _) (by simpa using hg)

theorem isLeft_ok {H : Heap} {id : Nat} {gs : List Int} (hg : GridAt H id gs) {a b c : Nat} (ha : a < 15) (hb : b < 15) (hc : c < 15) (Post : Value → Heap → Prop)
    (h : ∀ H', H <+: H' → Post (.bool (decide (gAt gs a b = -1) && (decide (gAt gs a c = -1) && decide (gAt gs b c = -1)))) H') :
    ACalls Try.prog 164 [.pointer (some ⟨id, 0, none⟩), (Bk.mk a b c).val] H Post := by
  refine acalls_vc (rs := [.tmp 4]) Try.func164 rfl rfl Try.ntmps164 rfl rfl ?_
  simp (maxSteps := 1000000) [go_sem, Bk.val, Value.oneCell']
  refine AWp.draw mixed [(0, false), (1, false), (2, false), (3, false), (4, false), (5, false), (6, false), (7, false), (8, false), (9, false), (10, false), (11, false), (12, false), (13, false), (14, false), (15, false), (16, false), (17, false), (18, false), (19, false), (20, false), (21, false), (22, false), (23, false), (24, false), (25, false), (26, false), (27, false), (28, false), (29, false), (30, false), (31, false), (32, false), (33, false), (34, false)] (by kernel_rfl) ?_
  have keep : GridAt (H ++ [⟨[.int .i64 a, .int .i64 b, .int .i64 c], true, true⟩]) id gs := ⟨Same.get (S := fun _ => False) (Same.of_prefix (List.prefix_append _ _)) hg.1 (fun h => h), hg.2⟩
  have h := h _ (List.prefix_append H [⟨[.int .i64 a, .int .i64 b, .int .i64 c], true, true⟩])
  have c1 : cellsAt _ id (a * 15 + b) 1 = some [.int .i64 (gAt gs a b)] := keep.load (by omega)
  have c2 : cellsAt _ id (a * 15 + c) 1 = some [.int .i64 (gAt gs a c)] := keep.load (by omega)
  have c3 : cellsAt _ id (b * 15 + c) 1 = some [.int .i64 (gAt gs b c)] := keep.load (by omega)
  generalize gAt gs a b = x at c1 h
  generalize gAt gs a c = y at c2 h
  generalize gAt gs b c = z at c3 h
  have ha' : (a : Int) < 15 := by omega
  have hb' : (b : Int) < 15 := by omega
  have hc' : (c : Int) < 15 := by omega
  by_cases hx : x = -1
  · by_cases hy : y = -1
    · by_cases hz : z = -1
      · simp (maxSteps := 1000000) [go_sem, ha, hb, hc, ha', hb', hc', c1, c2, c3, hx, hy, hz]
        simpa [hx, hy, hz] using h
      · have hz' : (z == -1) = false := by simpa using hz
        simp (maxSteps := 1000000) [go_sem, ha, hb, hc, ha', hb', hc', c1, c2, c3, hx, hy, hz']
        simpa [hx, hy, hz] using h
    · have hy' : (y == -1) = false := by simpa using hy
      simp (maxSteps := 1000000) [go_sem, ha, hb, hc, ha', hb', hc', c1, c2, c3, hx, hy']
      simpa [hx, hy] using h
  · have hx' : (x == -1) = false := by simpa using hx
    simp (maxSteps := 1000000) [go_sem, ha, hb, hc, ha', hb', hc', c1, c2, c3, hx']
    simpa [hx] using h

/-- The first s pairs of a block. -/
def gPut (is : Bool) (a b c : Nat) : Nat → List Int → List Int
  | 0, gs => gs
  | 1, gs => gSet gs a b (if is then (c : Int) else -1)
  | 2, gs => gSet (gSet gs a b (if is then (c : Int) else -1)) b c (if is then (a : Int) else -1)
  | _, gs => gSet (gSet (gSet gs a b (if is then (c : Int) else -1)) b c (if is then (a : Int) else -1)) c a (if is then (b : Int) else -1)

theorem put_ok {H : Heap} {id : Nat} {gs : List Int} {is : Bool} (hg : GridAt H id gs) {a b c : Nat} (ha : a < 15) (hb : b < 15) (hc : c < 15) (Post : Value → Heap → Prop)
    (h : ∀ H', Same (fun j => j = id) H H' → GridAt H' id (gPut is a b c 3 gs) → Post (.tuple #[]) H') :
    ACalls Try.prog 165 [.pointer (some ⟨id, 0, none⟩), (Bk.mk a b c).val, .bool is] H Post := by
  refine acalls_vc (rs := []) Try.func165 rfl rfl Try.ntmps165 rfl rfl ?_
  simp (maxSteps := 1000000) [go_sem, Bk.val, Value.oneCell']
  have hid : id < H.length := (List.getElem?_eq_some_iff.1 hg.1).1
  have ha' : (a : Int) < 15 := by omega
  have hb' : (b : Int) < 15 := by omega
  have hc' : (c : Int) < 15 := by omega
  refine AWp.loopVc (fun s : Nat => [(0, .pointer (some ⟨id, 0, none⟩)), (2, .bool is), (4, .pointer (some ⟨H.length, 0, none⟩)), (10, .agg #[.int .i64 a, .int .i64 b, .int .i64 c]), (11, .int .i64 s)])
    (fun s H' => s ≤ 3 ∧ Same (fun j => j = id) H H' ∧ H'[H.length]? = some ⟨[.int .i64 a, .int .i64 b, .int .i64 c], true, true⟩ ∧ GridAt H' id (gPut is a b c s gs)) (fun s => 3 - s) 0 ?_ ?_ ?_
  · simp [upF, Fr.get, Up.refl]
  · exact ⟨by omega, Same.of_prefix (List.prefix_append _ _), by simp, ⟨Same.get (S := fun _ => False) (Same.of_prefix (List.prefix_append _ _)) hg.1 (fun h => h), hg.2⟩⟩
  · rintro K s H' ⟨hs, hsame, hbox, hg⟩ hK
    have : s = 0 ∨ s = 1 ∨ s = 2 ∨ s = 3 := by omega
    rcases this with rfl | rfl | rfl | rfl
    · have hw : IntKind.i64.wrap 1 = 1 := i64w (by omega) (by omega)
      have hm1 : (IntKind.i64.wrap 1).tmod 3 = 1 := by rw [i64w (by omega) (by omega)]; rfl
      have hm2 : (IntKind.i64.wrap 2).tmod 3 = 2 := by rw [i64w (by omega) (by omega)]; rfl
      have hm1' : (1 : Int).tmod 3 = 1 := rfl
      have hm2' : (2 : Int).tmod 3 = 2 := rfl
      obtain ⟨st1, g1⟩ := hg.store (k := a * 15 + b) (by omega) (if is then (c : Int) else -1)
      obtain ⟨st2, g2⟩ := g1.store (k := b * 15 + a) (by omega) (if is then (c : Int) else -1)
      simp only [List.set_set] at st2 g2
      have l0 : cellsAt H' H.length 1 1 = some [.int .i64 b] := Holds.cell ⟨true, hbox⟩ rfl
      have l1 : cellsAt H' H.length 2 1 = some [.int .i64 c] := Holds.cell ⟨true, hbox⟩ rfl
      have fin : ∀ fr', upF _ [(0, .pointer (some ⟨id, 0, none⟩)), (2, .bool is), (4, .pointer (some ⟨H.length, 0, none⟩)), (10, .agg #[.int .i64 a, .int .i64 b, .int .i64 c]), (11, .int .i64 1)] fr' → K fr' _ := fun fr' hf =>
        hK 1 fr' _ (by omega) hf ⟨by omega, hsame.trans Same.set, by rw [List.getElem?_set_ne (by omega)]; exact hbox, g2⟩
      simp (maxSteps := 1000000) [go_sem, hw, partV]
      refine AWp.draw mixed [(0, false), (1, false), (2, false), (3, false), (4, false), (5, false), (6, false), (7, false), (8, false), (9, false), (10, false), (11, false)] (by kernel_rfl) ?_
      simp (maxSteps := 1000000) [go_sem, hw, hm1, hm2, hm1', hm2', l0, l1]
      refine condK_intro (fun his => ?_) (fun his => ?_)
      · obtain rfl : is = false := by simpa using his
        simp only [Bool.false_eq_true, if_false] at st1 st2 fin
        refine AWp.draw mixed [(0, false), (1, false), (2, false), (3, false), (4, false), (5, false), (6, false), (7, false), (8, false), (10, false), (11, false), (9, false), (12, false), (13, false)] (by kernel_rfl) ?_
        simp (maxSteps := 1000000) [go_sem, hw, hm1, hm2, hm1', hm2', l0, l1, st1, st2, ha', hb', hc', Value.oneCell']
        exact fin _ (by simp [upF, Fr.get, Up.refl])
      · obtain rfl : is = true := by simpa using his
        simp only [if_true] at st1 st2 fin
        refine AWp.draw mixed [(0, false), (1, false), (2, false), (3, false), (4, false), (5, false), (6, false), (7, false), (8, false), (9, false), (10, false), (12, false), (13, false), (11, false), (14, false), (15, false)] (by kernel_rfl) ?_
        simp (maxSteps := 1000000) [go_sem, hw, hm1, hm2, hm1', hm2', l0, l1, st1, st2, ha', hb', hc', Value.oneCell']
        exact fin _ (by simp [upF, Fr.get, Up.refl])
    · have hw : IntKind.i64.wrap 2 = 2 := i64w (by omega) (by omega)
      have hm1 : (IntKind.i64.wrap 2).tmod 3 = 2 := by rw [i64w (by omega) (by omega)]; rfl
      have hm2 : (IntKind.i64.wrap 3).tmod 3 = 0 := by rw [i64w (by omega) (by omega)]; rfl
      have hm1' : (2 : Int).tmod 3 = 2 := rfl
      have hm2' : (3 : Int).tmod 3 = 0 := rfl
      obtain ⟨st1, g1⟩ := hg.store (k := b * 15 + c) (by omega) (if is then (a : Int) else -1)
      obtain ⟨st2, g2⟩ := g1.store (k := c * 15 + b) (by omega) (if is then (a : Int) else -1)
      simp only [List.set_set] at st2 g2
      have l0 : cellsAt H' H.length 2 1 = some [.int .i64 c] := Holds.cell ⟨true, hbox⟩ rfl
      have l1 : cellsAt H' H.length 0 1 = some [.int .i64 a] := Holds.cell ⟨true, hbox⟩ rfl
      have fin : ∀ fr', upF _ [(0, .pointer (some ⟨id, 0, none⟩)), (2, .bool is), (4, .pointer (some ⟨H.length, 0, none⟩)), (10, .agg #[.int .i64 a, .int .i64 b, .int .i64 c]), (11, .int .i64 2)] fr' → K fr' _ := fun fr' hf =>
        hK 2 fr' _ (by omega) hf ⟨by omega, hsame.trans Same.set, by rw [List.getElem?_set_ne (by omega)]; exact hbox, g2⟩
      simp (maxSteps := 1000000) [go_sem, hw, partV]
      refine AWp.draw mixed [(0, false), (1, false), (2, false), (3, false), (4, false), (5, false), (6, false), (7, false), (8, false), (9, false), (10, false), (11, false)] (by kernel_rfl) ?_
      simp (maxSteps := 1000000) [go_sem, hw, hm1, hm2, hm1', hm2', l0, l1]
      refine condK_intro (fun his => ?_) (fun his => ?_)
      · obtain rfl : is = false := by simpa using his
        simp only [Bool.false_eq_true, if_false] at st1 st2 fin
        refine AWp.draw mixed [(0, false), (1, false), (2, false), (3, false), (4, false), (5, false), (6, false), (7, false), (8, false), (10, false), (11, false), (9, false), (12, false), (13, false)] (by kernel_rfl) ?_
        simp (maxSteps := 1000000) [go_sem, hw, hm1, hm2, hm1', hm2', l0, l1, st1, st2, ha', hb', hc', Value.oneCell']
        exact fin _ (by simp [upF, Fr.get, Up.refl])
      · obtain rfl : is = true := by simpa using his
        simp only [if_true] at st1 st2 fin
        refine AWp.draw mixed [(0, false), (1, false), (2, false), (3, false), (4, false), (5, false), (6, false), (7, false), (8, false), (9, false), (10, false), (12, false), (13, false), (11, false), (14, false), (15, false)] (by kernel_rfl) ?_
        simp (maxSteps := 1000000) [go_sem, hw, hm1, hm2, hm1', hm2', l0, l1, st1, st2, ha', hb', hc', Value.oneCell']
        exact fin _ (by simp [upF, Fr.get, Up.refl])
    · have hw : IntKind.i64.wrap 3 = 3 := i64w (by omega) (by omega)
      have hm1 : (IntKind.i64.wrap 3).tmod 3 = 0 := by rw [i64w (by omega) (by omega)]; rfl
      have hm2 : (IntKind.i64.wrap 4).tmod 3 = 1 := by rw [i64w (by omega) (by omega)]; rfl
      have hm1' : (3 : Int).tmod 3 = 0 := rfl
      have hm2' : (4 : Int).tmod 3 = 1 := rfl
      obtain ⟨st1, g1⟩ := hg.store (k := c * 15 + a) (by omega) (if is then (b : Int) else -1)
      obtain ⟨st2, g2⟩ := g1.store (k := a * 15 + c) (by omega) (if is then (b : Int) else -1)
      simp only [List.set_set] at st2 g2
      have l0 : cellsAt H' H.length 0 1 = some [.int .i64 a] := Holds.cell ⟨true, hbox⟩ rfl
      have l1 : cellsAt H' H.length 1 1 = some [.int .i64 b] := Holds.cell ⟨true, hbox⟩ rfl
      have fin : ∀ fr', upF _ [(0, .pointer (some ⟨id, 0, none⟩)), (2, .bool is), (4, .pointer (some ⟨H.length, 0, none⟩)), (10, .agg #[.int .i64 a, .int .i64 b, .int .i64 c]), (11, .int .i64 3)] fr' → K fr' _ := fun fr' hf =>
        hK 3 fr' _ (by omega) hf ⟨by omega, hsame.trans Same.set, by rw [List.getElem?_set_ne (by omega)]; exact hbox, g2⟩
      simp (maxSteps := 1000000) [go_sem, hw, partV]
      refine AWp.draw mixed [(0, false), (1, false), (2, false), (3, false), (4, false), (5, false), (6, false), (7, false), (8, false), (9, false), (10, false), (11, false)] (by kernel_rfl) ?_
      simp (maxSteps := 1000000) [go_sem, hw, hm1, hm2, hm1', hm2', l0, l1]
      refine condK_intro (fun his => ?_) (fun his => ?_)
      · obtain rfl : is = false := by simpa using his
        simp only [Bool.false_eq_true, if_false] at st1 st2 fin
        refine AWp.draw mixed [(0, false), (1, false), (2, false), (3, false), (4, false), (5, false), (6, false), (7, false), (8, false), (10, false), (11, false), (9, false), (12, false), (13, false)] (by kernel_rfl) ?_
        simp (maxSteps := 1000000) [go_sem, hw, hm1, hm2, hm1', hm2', l0, l1, st1, st2, ha', hb', hc', Value.oneCell']
        exact fin _ (by simp [upF, Fr.get, Up.refl])
      · obtain rfl : is = true := by simpa using his
        simp only [if_true] at st1 st2 fin
        refine AWp.draw mixed [(0, false), (1, false), (2, false), (3, false), (4, false), (5, false), (6, false), (7, false), (8, false), (9, false), (10, false), (12, false), (13, false), (11, false), (14, false), (15, false)] (by kernel_rfl) ?_
        simp (maxSteps := 1000000) [go_sem, hw, hm1, hm2, hm1', hm2', l0, l1, st1, st2, ha', hb', hc', Value.oneCell']
        exact fin _ (by simp [upF, Fr.get, Up.refl])
    · simp (maxSteps := 1000000) [go_sem]
      exact h H' hsame hg

end Go.Proofs.Ytdfeoccjllljiaa
end

section
/- The grid of a list of blocks; the program's test for systems. -/
set_option linter.all false
set_option maxRecDepth 20000
namespace Go.Proofs.Ytdfeoccjllljiaa
open Go.Ab

theorem GridAt.keep {H H' : Heap} {id : Nat} {gs : List Int} (h : GridAt H id gs) (hp : H <+: H') : GridAt H' id gs :=
  ⟨Same.get (S := fun _ => False) (Same.of_prefix hp) h.1 (fun h => h), h.2⟩

theorem good_nat {v : Int} {b : Bk} (h : good v b = true) (hv : v ≤ 15) : ∃ x y z : Nat, b = ⟨x, y, z⟩ ∧ x < y ∧ y < z ∧ z < 15 := by
  rw [good_iff] at h
  obtain ⟨a, b, c⟩ := b
  simp only at h
  exact ⟨a.toNat, b.toNat, c.toNat, by simp only [Bk.mk.injEq]; omega, by omega, by omega, by omega⟩

theorem gridOf_ok {H : Heap} {u : Value} {bs : List Bk} (hu : BlocksAt H u bs) (hg : ∀ x ∈ bs, good 15 x = true) (Post : Value → Heap → Prop)
    (hbad : ∀ H', H <+: H' → ¬ Fits bs → Post (.tuple #[.pointer none, .bool false]) H')
    (hgood : ∀ H' id gs, H <+: H' → H.length ≤ id → GridAt H' id gs → GridOf gs bs → Fits bs → Post (.tuple #[.pointer (some ⟨id, 0, none⟩), .bool true]) H') :
    ACalls Try.prog 122 [u] H Post := by
  obtain ⟨i, o, rfl, h1, h2⟩ := hu
  refine acalls_vc (rs := [.tmp 2, .tmp 3]) Try.func122 rfl rfl Try.ntmps122 rfl rfl ?_
  simp (maxSteps := 1000000) [go_sem]
  refine newGrid_ok _ ?_
  intro H0 id hp0 hid hg0
  simp (maxSteps := 1000000) [go_sem]
  refine AWp.loopVc (St := Nat × List Int) (fun s => [(4, .pointer (some ⟨id, 0, none⟩)), (8, lv 3 i o bs.length), (9, .int .i64 bs.length), (10, .int .i64 s.1)])
    (fun s H' => s.1 ≤ bs.length ∧ H <+: H' ∧ GridAt H' id s.2 ∧ GridOf s.2 (bs.take s.1) ∧ Fits (bs.take s.1)) (fun s => bs.length - s.1) (0, List.replicate 225 (-1)) ?_ ?_ ?_
  · simp [upF, Fr.get, Up.refl]
  · refine ⟨by simp, hp0, hg0, by simpa using gridOf_nil, ?_⟩
    intro i k x y hk hx; simp at hx
  · rintro K ⟨s, gs⟩ H' ⟨hs, hp, hgr, hof, hfit⟩ hK
    simp only at hs hgr hof hfit
    by_cases hlt : s < bs.length
    · have hbs : bs[s]? = some bs[s] := List.getElem?_eq_getElem hlt
      have c1 := (h1.pre hp).bk hbs
      obtain ⟨a, b, c, hb, hab, hbc, hc⟩ := good_nat (hg _ (List.mem_of_getElem? hbs)) (by omega)
      have hgt : ∀ x ∈ bs.take s, good 15 x = true := fun x hx => hg x (List.mem_of_mem_take hx)
      have htake : bs.take (s + 1) = bs.take s ++ [⟨a, b, c⟩] := by rw [List.take_succ_eq_append_getElem hlt, hb]
      have hgb : good 15 ⟨a, b, c⟩ = true := by rw [good_iff]; simp only; omega
      rw [hb] at c1
      simp only [Bk.cells] at c1
      have hw_s : IntKind.i64.wrap ((s : Int) + 1) = (s : Int) + 1 := i64w (by omega) (by omega)
      simp (maxSteps := 1000000) [go_sem, hlt, c1, Value.oneCell']
      have hp2 : H' <+: H' ++ [⟨[.int .i64 a, .int .i64 b, .int .i64 c], true, true⟩] := List.prefix_append _ _
      have hbox : (H' ++ [(⟨[.int .i64 a, .int .i64 b, .int .i64 c], true, true⟩ : Blk)])[H'.length]? = some ⟨[.int .i64 a, .int .i64 b, .int .i64 c], true, true⟩ := by simp
      refine isLeft_ok (hgr.keep hp2) (by omega) (by omega) hc _ ?_
      intro H3 hp3
      rw [gridOf_left hof hab hbc hc]
      have d1 : cellsAt H3 H'.length 0 3 = some [.int .i64 a, .int .i64 b, .int .i64 c] := by
        have := Holds.cells (n := 3) (o := 0) ⟨true, Same.get (S := fun _ => False) (Same.of_prefix hp3) hbox (fun h => h)⟩ (by simp)
        simpa using this
      cases hl : leftB (bs.take s) ⟨a, b, c⟩ with
      | false =>
        simp (maxSteps := 1000000) [go_sem]
        refine hbad H3 (hp.trans (hp2.trans hp3)) (fun hF => ?_)
        have := (leftB_iff hgt hgb).2 (fits_snoc.1 (htake ▸ fits_take hF (s + 1))).2
        rw [hl] at this; cases this
      | true =>
        simp (maxSteps := 1000000) [go_sem, d1]
        refine put_ok ((hgr.keep hp2).keep hp3) (by omega) (by omega) hc _ ?_
        intro H4 hs4 hg4
        simp (maxSteps := 1000000) [go_sem, hw_s]
        refine hK (s + 1, gPut true a b c 3 gs) _ _ (by simp only; omega) (by simp [upF, Fr.get, Up.refl]) ⟨by simp only; omega, ?_, hg4, ?_, ?_⟩
        · exact ((Same.of_prefix (hp.trans (hp2.trans hp3))).trans hs4).prefix (by omega)
        · simp only [htake]; exact gridOf_snoc hof hgt hab hbc hc hl
        · simp only [htake]; exact fits_snoc.2 ⟨hfit, (leftB_iff hgt hgb).1 hl⟩
    · have : s = bs.length := by omega
      subst this
      simp (maxSteps := 1000000) [go_sem]
      rw [List.take_length] at hof hfit
      exact hgood H' id gs hp hid hgr hof hfit

theorem sorted_snoc {p : Int} {bs : List Bk} {s : Nat} (hs : s < bs.length) (h : ∀ (a : Nat) (x : Bk), a < s → bs[a]? = some x → good p x = true ∧ ∀ y, 0 < a → bs[a - 1]? = some y → before y x = true)
    (hg : good p bs[s] = true) (hb : ∀ y, 0 < s → bs[s - 1]? = some y → before y bs[s] = true) : ∀ (a : Nat) (x : Bk), a < s + 1 → bs[a]? = some x → good p x = true ∧ ∀ y, 0 < a → bs[a - 1]? = some y → before y x = true := by
  intro a x ha hx
  by_cases e : a = s
  · subst e
    rw [List.getElem?_eq_getElem hs] at hx; cases hx
    exact ⟨hg, hb⟩
  · exact h a x (by omega) hx

theorem areBlocks_ok {H : Heap} {u : Value} {p : Int} {bs : List Bk} (hu : BlocksAt H u bs) (Post : Value → Heap → Prop) (h : ∀ H' b, H <+: H' → (b = true ↔ IsSys p bs) → Post (.bool b) H') :
    ACalls Try.prog 135 [.int .i64 p, u] H Post := by
  obtain ⟨i, o, rfl, h1, h2⟩ := hu
  refine acalls_vc (rs := [.tmp 4]) Try.func135 rfl rfl Try.ntmps135 rfl rfl ?_
  simp (maxSteps := 1000000) [go_sem]
  refine within_ok _ ?_
  by_cases hin : 3 ≤ p ∧ p ≤ 15
  · by_cases hl35 : bs.length ≤ 35
    · have hgt : ¬ ((35 : Int) < bs.length) := by omega
      simp (maxSteps := 1000000) [go_sem, hin.1, hin.2, hgt]
      refine AWp.loopVc (fun s : Nat => [(0, .int .i64 p), (1, lv 3 i o bs.length), (17, lv 3 i o bs.length), (18, .int .i64 bs.length), (19, .int .i64 s)])
        (fun s H' => s ≤ bs.length ∧ H <+: H' ∧ ∀ (a : Nat) (x : Bk), a < s → bs[a]? = some x → good p x = true ∧ ∀ y, 0 < a → bs[a - 1]? = some y → before y x = true) (fun s => bs.length - s) 0 ?_ ?_ ?_
      · simp [upF, Fr.get, Up.refl]
      · exact ⟨by omega, List.prefix_refl _, by intro a x ha; omega⟩
      · rintro K s H' ⟨hs, hp, hf⟩ hK
        by_cases hlt : s < bs.length
        · have hbs : bs[s]? = some bs[s] := List.getElem?_eq_getElem hlt
          have c1 := (h1.pre hp).bk hbs
          simp only [Bk.cells] at c1
          have hw_s : IntKind.i64.wrap ((s : Int) + 1) = (s : Int) + 1 := i64w (by omega) (by omega)
          simp (maxSteps := 1000000) [go_sem, hlt, c1, Value.oneCell']
          refine AWp.draw mixed [(0, false), (1, false), (2, false), (3, false), (4, false), (5, false), (6, false), (7, false), (8, false), (9, false), (10, false), (11, false), (12, false), (13, false), (14, false), (15, false), (16, false), (17, false)] (by kernel_rfl) ?_
          simp (maxSteps := 1000000) [go_sem]
          refine isBlock_ok (b := bs[s]) (by omega) (by omega) _ ?_
          intro H2 hp2
          have hp2' : H' <+: H2 := (List.prefix_append _ _).trans hp2
          have hbox : H2[H'.length]? = some ⟨[.int .i64 bs[s].a, .int .i64 bs[s].b, .int .i64 bs[s].c], true, true⟩ := Same.get (S := fun _ => False) (Same.of_prefix hp2) (by simp) (fun h => h)
          have d1 : cellsAt H2 H'.length 0 3 = some [.int .i64 bs[s].a, .int .i64 bs[s].b, .int .i64 bs[s].c] := by
            simpa using Holds.cells (n := 3) (o := 0) ⟨true, hbox⟩ (by simp)
          by_cases hg : good p bs[s] = true
          · by_cases h0 : s = 0
            · subst h0
              simp (maxSteps := 1000000) [go_sem, hg, i64w (n := 1)]
              exact hK 1 _ _ (by omega) (by simp [upF, Fr.get, Up.refl]) ⟨by omega, hp.trans hp2', sorted_snoc hlt hf hg (by intro y hy; omega)⟩
            · obtain ⟨r, rfl⟩ : ∃ r, s = r + 1 := ⟨s - 1, by omega⟩
              have hbr : bs[r]? = some (bs[r]'(by omega)) := List.getElem?_eq_getElem _
              have e2 := (h1.pre (hp.trans hp2')).bk hbr
              simp only [Bk.cells] at e2
              have hr : r < bs.length := by omega
              have hw3 : IntKind.i64.wrap (r : Int) = (r : Int) := i64w (by omega) (by omega)
              have hw4 : IntKind.i64.wrap ((r : Int) + 1 + 1) = (r : Int) + 1 + 1 := i64w (by omega) (by omega)
              simp (maxSteps := 1000000) [go_sem, hg, d1, e2, hlt, hr, hw3]
              refine compare_ok (b := bs[r]'(by omega)) (d := bs[r + 1]) _ ?_
              intro H3 hp3
              by_cases hbf : before (bs[r]'(by omega)) bs[r + 1] = true
              · have hlx : decide (0 ≤ lexC [(bs[r]'(by omega)).a, (bs[r]'(by omega)).b, (bs[r]'(by omega)).c] [bs[r + 1].a, bs[r + 1].b, bs[r + 1].c]) = false := by
                  rw [decide_eq_false_iff_not, lexC_block, hbf]; simp
                simp (maxSteps := 1000000) [go_sem, hlx, hw4]
                refine hK (r + 1 + 1) _ _ (by omega) (by simp [upF, Fr.get, Up.refl]) ⟨by omega, hp.trans (hp2'.trans hp3), sorted_snoc hlt hf hg ?_⟩
                intro y _ hy
                simp only [Nat.add_sub_cancel] at hy
                rw [hbr] at hy; cases hy; exact hbf
              · have hlx : decide (0 ≤ lexC [(bs[r]'(by omega)).a, (bs[r]'(by omega)).b, (bs[r]'(by omega)).c] [bs[r + 1].a, bs[r + 1].b, bs[r + 1].c]) = true := by
                  rw [decide_eq_true_eq, lexC_block]; simpa using hbf
                simp (maxSteps := 1000000) [go_sem, hlx]
                refine h H3 false (hp.trans (hp2'.trans hp3)) ⟨by simp, fun hS => ?_⟩
                exact absurd ((hS.2.2.1 (r + 1) _ hbs).2 _ (by omega) (by simpa using hbr)) hbf
          · simp (maxSteps := 1000000) [go_sem, hg]
            refine h H2 false (hp.trans hp2') ⟨by simp, fun hS => ?_⟩
            exact absurd (hS.2.2.1 s _ hbs).1 hg
        · have : s = bs.length := by omega
          subst this
          have hso : Sorted p bs := fun a x hx => hf a x (List.getElem?_eq_some_iff.1 hx).1 hx
          have hg15 : ∀ x ∈ bs, good 15 x = true := by
            intro x hx
            obtain ⟨k, hk⟩ := List.mem_iff_getElem?.1 hx
            have := (hso k x hk).1
            rw [good_iff] at this ⊢; omega
          simp (maxSteps := 1000000) [go_sem]
          refine gridOf_ok ⟨i, o, rfl, h1.pre hp, h2⟩ hg15 _ (fun H2 hp2 hn => ?_) (fun H2 id gs hp2 _ _ _ hF => ?_)
          · simp (maxSteps := 1000000) [go_sem]
            exact h H2 false (hp.trans hp2) ⟨by simp, fun hS => absurd hS.2.2.2 hn⟩
          · simp (maxSteps := 1000000) [go_sem]
            exact h H2 true (hp.trans hp2) ⟨fun _ => ⟨hin, hl35, hso, hF⟩, fun _ => rfl⟩
    · have hgt : (35 : Int) < bs.length := by omega
      simp (maxSteps := 1000000) [go_sem, hin.1, hin.2, hgt]
      exact h H false (List.prefix_refl _) ⟨by simp, fun hS => absurd hS.2.1 hl35⟩
  · have hn : (decide (3 ≤ p) && decide (p ≤ 15)) = false := by simp; omega
    rw [hn]
    simp (maxSteps := 1000000) [go_sem]
    exact h H false (List.prefix_refl _) ⟨by simp, fun hS => absurd hS.1 hin⟩

end Go.Proofs.Ytdfeoccjllljiaa
end

section
/- The arguments' shapes: numbers, lists, systems. It holds for every program that has these types. -/
set_option linter.all false
set_option maxRecDepth 20000
namespace Go.Proofs.Ytdfeoccjllljiaa
open Go.Ab

/-- A number that 64 bits hold. -/
def In64 (n : Int) : Prop := -9223372036854775808 ≤ n ∧ n ≤ 9223372036854775807
theorem In64.of_wf {n : Int} (h : (Lit.int .i64 n).wf = true) : In64 n := by
  simp only [Lit.wf, Bool.and_eq_true, decide_eq_true_eq] at h
  have h1 : IntKind.i64.min = -9223372036854775808 := rfl
  have h2 : IntKind.i64.max = 9223372036854775807 := rfl
  rw [h1, h2] at h
  exact h
/-- As IntsAt, but the length is only what 64 bits hold. -/
def IntsAt0 (H : Heap) (v : Value) (xs : List Int) : Prop := ∃ i o, v = lv 1 i o xs.length ∧ At H i o (ints xs) ∧ xs.length ≤ 9223372036854775807
theorem IntsAt0.at {H : Heap} {v : Value} {xs : List Int} (h : IntsAt0 H v xs) (hl : xs.length ≤ 140737488355328) : IntsAt H v xs := by
  obtain ⟨i, o, h1, h2, _⟩ := h; exact ⟨i, o, h1, h2, hl⟩
theorem IntsAt0.pre {H H' : Heap} (hp : H <+: H') {v : Value} {xs : List Int} (h : IntsAt0 H v xs) : IntsAt0 H' v xs := by
  obtain ⟨i, o, h1, h2, h3⟩ := h; exact ⟨i, o, h1, h2.pre hp, h3⟩
def BlocksAt0 (H : Heap) (v : Value) (bs : List Bk) : Prop := ∃ i o, v = lv 3 i o bs.length ∧ At H i o (tri bs) ∧ bs.length ≤ 9223372036854775807
theorem BlocksAt0.at {H : Heap} {v : Value} {bs : List Bk} (h : BlocksAt0 H v bs) (hl : bs.length ≤ 140737488355328) : BlocksAt H v bs := by
  obtain ⟨i, o, h1, h2, _⟩ := h; exact ⟨i, o, h1, h2, hl⟩
theorem BlocksAt0.pre {H H' : Heap} (hp : H <+: H') {v : Value} {bs : List Bk} (h : BlocksAt0 H v bs) : BlocksAt0 H' v bs := by
  obtain ⟨i, o, h1, h2, h3⟩ := h; exact ⟨i, o, h1, h2.pre hp, h3⟩
def IntssAt0 (H : Heap) (v : Value) (xss : List (List Int)) : Prop :=
  ∃ i o vs, v = lv 1 i o xss.length ∧ vs.length = xss.length ∧ At H i o vs ∧ (∀ (k : Nat) (v : Value) (xs : List Int), vs[k]? = some v → xss[k]? = some xs → IntsAt0 H v xs) ∧ xss.length ≤ 9223372036854775807
theorem IntssAt0.at {H : Heap} {v : Value} {xss : List (List Int)} (h : IntssAt0 H v xss) (hl : xss.length ≤ 140737488355328) (hls : ∀ xs ∈ xss, xs.length ≤ 140737488355328) : IntssAt H v xss := by
  obtain ⟨i, o, vs, h1, h2, h3, h4, _⟩ := h
  exact ⟨i, o, vs, h1, h2, h3, fun k v xs hv hx => (h4 k v xs hv hx).at (hls xs (List.mem_of_getElem? hx)), hl⟩
theorem IntssAt0.pre {H H' : Heap} (hp : H <+: H') {v : Value} {xss : List (List Int)} (h : IntssAt0 H v xss) : IntssAt0 H' v xss := by
  obtain ⟨i, o, vs, h1, h2, h3, h4, h5⟩ := h
  exact ⟨i, o, vs, h1, h2, h3.pre hp, fun k v xs hv hx => (h4 k v xs hv hx).pre hp, h5⟩

theorem bk_of_many {H : Heap} {e : List Value} (h : cMany (cInt .i64) 3 H e) : ∃ b : Bk, e = b.cells ∧ In64 b.a ∧ In64 b.b ∧ In64 b.c := by
  obtain ⟨es, h1, h2, h3⟩ := h
  match es, h1 with
  | [x, y, z], _ =>
    obtain ⟨a, rfl, ha⟩ := h3 x (by simp)
    obtain ⟨b, rfl, hb⟩ := h3 y (by simp)
    obtain ⟨c, rfl, hc⟩ := h3 z (by simp)
    exact ⟨⟨a, b, c⟩, by simp [h2, Bk.cells], In64.of_wf ha, In64.of_wf hb, In64.of_wf hc⟩
theorem bks_of_many {H : Heap} : ∀ {es : List (List Value)}, (∀ e ∈ es, cMany (cInt .i64) 3 H e ∧ e.length = 3) → ∃ bs : List Bk, es.flatten = tri bs ∧ bs.length = es.length ∧ ∀ b ∈ bs, In64 b.a ∧ In64 b.b ∧ In64 b.c
  | [], _ => ⟨[], rfl, rfl, by simp⟩
  | e :: es, h => by
    obtain ⟨bs, h1, h2, h3⟩ := bks_of_many (es := es) fun e he => h e (List.mem_cons_of_mem _ he)
    obtain ⟨b, hb, hw⟩ := bk_of_many (h e List.mem_cons_self).1
    refine ⟨b :: bs, by simp [hb, h1, tri_cons], by simp [h2], ?_⟩
    intro x hx
    rcases List.mem_cons.1 hx with rfl | hx
    · exact hw
    · exact h3 x hx

abbrev cBks : Heap → List Value → Prop := cSl 3 (cMany (cInt .i64) 3)
theorem says_bks {H : Heap} {v : Value} (h : cBks H [v]) : ∃ bs, BlocksAt0 H v bs ∧ ∀ b ∈ bs, In64 b.a ∧ In64 b.b ∧ In64 b.c := by
  obtain ⟨id, es, h1, h2, h3, h4⟩ := h
  obtain ⟨bs, h5, h6, h7⟩ := bks_of_many h3
  simp only [List.cons.injEq, and_true] at h1
  refine ⟨bs, ⟨id, 0, by rw [h1, h6], ?_, by rw [h6]; exact h4⟩, h7⟩
  rcases h2 with rfl | h2
  · left; rw [← h5]; rfl
  · right; rw [← h5, show es.flatten.length = es.length * 3 by rw [h5, tri_length, h6]]; exact h2
theorem open_bks {D : Type} {enc : TypeId × Value → D} (W : World) : OpenC enc Try.prog W 22 cBks :=
  open_cSl Try.underlying22 (by kernel_rfl) (by omega) (cMany_stable (cInt_stable _) 3) (open_cArr (c := 1) Try.underlying92 (by kernel_rfl) (by kernel_rfl) (cInt_stable _) (open_cInt Try.underlying2))

theorem szBlockS0_ok {H : Heap} {u : Value} {bs : List Bk} {k : Int} (hu : BlocksAt0 H u bs) (hk0 : 0 ≤ k) (hk : k ≤ 1048576) (Post : Value → Heap → Prop) (h : Post (.int .i64 (if k < bs.length then -1 else k - bs.length)) H) :
    ACalls Try.prog 55 [u, .int .i64 k] H Post := by
  obtain ⟨i, o, rfl, h1, h2⟩ := hu
  refine acalls_vc (rs := [.tmp 4]) Try.func55 rfl rfl Try.ntmps55 rfl rfl ?_
  have hw : IntKind.i64.wrap (k - bs.length) = k - bs.length := i64w (by omega) (by omega)
  simp (maxSteps := 1000000) [go_sem, hw]
  refine condK_intro (fun h1 => ?_) (fun h1 => ?_)
  · rw [if_pos (by simp at h1; omega)] at h; exact h
  · rw [if_neg (by simp at h1; omega)] at h; exact h

end Go.Proofs.Ytdfeoccjllljiaa
end

section
/- Full systems: both sides. -/
set_option linter.all false
set_option maxRecDepth 20000
namespace Go.Proofs.Ytdfeoccjllljiaa
open Go.Ab

/-- Whether these blocks are a system. -/
noncomputable def sysB (p : Int) (bs : List Bk) : Bool := @decide (IsSys p bs) (Classical.propDecidable _)
theorem sysB_iff {p : Int} {bs : List Bk} : sysB p bs = true ↔ IsSys p bs := by simp [sysB]
theorem sysB_eq {p : Int} {bs : List Bk} {b : Bool} (h : b = true ↔ IsSys p bs) : b = sysB p bs := by
  cases hs : sysB p bs with
  | true => exact h.2 (sysB_iff.1 hs)
  | false =>
    cases b with
    | false => rfl
    | true => exact absurd (sysB_iff.2 (h.1 rfl)) (by simp [hs])

theorem l01Is' {H : Heap} {u : Value} {p : Int} {bs : List Bk} (hu : BlocksAt H u bs) (hl : bs.length ≤ 1048576) (Post : Value → Heap → Prop) (h : ∀ H', H <+: H' → Post (.bool (sysB p bs)) H') :
    ACalls Try.prog 76 [sysV p u] H Post := l01Is_ok hu hl Post fun H' b hp hb => sysB_eq hb ▸ h H' hp
end Go.Proofs.Ytdfeoccjllljiaa
end

section
/- Contracts of the laws' own helpers: copies of lists of numbers, marks over blocks and systems. -/
set_option linter.all false
set_option maxRecDepth 20000
namespace Go.Proofs.Ytdfeoccjllljiaa
open Go.Ab

/-- A slice of numbers that the call holds alone. -/
def OwnInts (H : Heap) (v : Value) (id : Nat) (xs : List Int) : Prop := v = lv 1 id 0 xs.length ∧ (xs = [] ∨ H[id]? = some ⟨ints xs, true, true⟩) ∧ xs.length ≤ 140737488355328
theorem OwnInts.read {H : Heap} {v : Value} {id : Nat} {xs : List Int} (h : OwnInts H v id xs) : IntsAt H v xs := by
  obtain ⟨h1, h2, h3⟩ := h
  refine ⟨id, 0, h1, ?_, h3⟩
  rcases h2 with rfl | h2
  · exact .inl rfl
  · exact Holds.at ⟨true, h2⟩
theorem OwnInts.keep {H H' : Heap} {v : Value} {id : Nat} {xs : List Int} (h : OwnInts H v id xs) {S : Nat → Prop} (hs : Same S H H') (hi : ¬ S id) : OwnInts H' v id xs :=
  ⟨h.1, h.2.1.imp (fun h => h) fun hb => hs.get hb hi, h.2.2⟩
theorem OwnInts.pre {H H' : Heap} (hp : H <+: H') {v : Value} {id : Nat} {xs : List Int} (h : OwnInts H v id xs) : OwnInts H' v id xs := h.keep (S := fun _ => False) (Same.of_prefix hp) (fun h => h)
theorem OwnInts.of_ol {H : Heap} {id : Nat} {xs : List Int} (h : OL 1 H id (ints xs) xs.length) (hl : xs.length ≤ 140737488355328) : OwnInts H (lv 1 id 0 xs.length) id xs :=
  ⟨rfl, h.2.imp (fun h => List.eq_nil_of_length_eq_zero h.1) (fun h => h), hl⟩
theorem OwnInts.one {H : Heap} {v : Value} {id : Nat} {xs : List Int} (h : OwnInts H v id xs) : v.oneCell' = true := h.read.one
theorem _root_.Go.Ab.OwnBlocks.pre {H H' : Heap} (hp : H <+: H') {v : Value} {id : Nat} {bs : List Bk} (h : OwnBlocks H v id bs) : OwnBlocks H' v id bs := h.keep (S := fun _ => False) (Same.of_prefix hp) (fun h => h)
theorem _root_.Go.Ab.OwnBlocks.one {H : Heap} {v : Value} {id : Nat} {bs : List Bk} (h : OwnBlocks H v id bs) : v.oneCell' = true := h.read.one
theorem _root_.Go.Ab.OwnBlocks.of_ol {H : Heap} {id : Nat} {bs : List Bk} (h : OL 3 H id (tri bs) bs.length) (hl : bs.length ≤ 140737488355328) : OwnBlocks H (lv 3 id 0 bs.length) id bs :=
  ⟨rfl, h.2.imp (fun h => List.eq_nil_of_length_eq_zero h.1) (fun h => h), hl⟩
theorem _root_.Go.Ab.OwnBlocks.lt {H : Heap} {v : Value} {id : Nat} {bs : List Bk} (h : OwnBlocks H v id bs) : bs = [] ∨ id < H.length := h.2.1.imp (fun h => h) fun h => (List.getElem?_eq_some_iff.1 h).1

theorem _root_.Go.Ab.Holds.keepS {H H' : Heap} {i : Nat} {cs : List Value} (h : Holds H i cs) {S : Nat → Prop} (hs : Same S H H') (hi : ¬ S i) : Holds H' i cs := by
  obtain ⟨o, h⟩ := h; exact ⟨o, hs.get h hi⟩
theorem _root_.Go.Ab.Holds.sys {H : Heap} {i : Nat} {p : Int} {u : Value} (h : Holds H i [.int .i64 p, u]) : cellsAt H i 0 2 = some [.int .i64 p, u] ∧ cellsAt H i 0 1 = some [.int .i64 p] ∧ cellsAt H i 1 1 = some [u] :=
  ⟨by simpa using h.cells (n := 2) (o := 0) (by simp), h.cell rfl, h.cell rfl⟩
theorem _root_.Go.Ab.Holds.bk {H : Heap} {i : Nat} {a b c : Int} (h : Holds H i [.int .i64 a, .int .i64 b, .int .i64 c]) : cellsAt H i 0 3 = some [.int .i64 a, .int .i64 b, .int .i64 c] ∧ cellsAt H i 0 1 = some [.int .i64 a] ∧ cellsAt H i 1 1 = some [.int .i64 b] ∧ cellsAt H i 2 1 = some [.int .i64 c] :=
  ⟨by simpa using h.cells (n := 3) (o := 0) (by simp), h.cell rfl, h.cell rfl, h.cell rfl⟩
theorem _root_.Go.Ab.Holds.last (H : Heap) (cs : List Value) : Holds (H ++ [⟨cs, true, true⟩]) H.length cs := ⟨true, by simp⟩

/-- The numbers of some blocks, one behind the other. -/
def nums (bs : List Bk) : List Int := bs.flatMap fun b => [b.a, b.b, b.c]
theorem tri_nums (bs : List Bk) : tri bs = ints (nums bs) := by
  induction bs with
  | nil => rfl
  | cons b bs ih => rw [tri_cons, ih]; simp [nums, ints, Bk.cells]
theorem nums_length (bs : List Bk) : (nums bs).length = bs.length * 3 := by
  have := tri_length bs; rw [tri_nums, ints_length] at this; exact this

theorem mark_set {k : Int} {ys : List Int} {m : Nat} (h : m < ys.length) : (upFrom k m ++ ys.drop m).set m (k + m) = upFrom k (m + 1) ++ ys.drop (m + 1) := by
  rw [List.set_append_right _ _ (by rw [upFrom_length]; exact Nat.le_refl _), upFrom_length, Nat.sub_self, List.drop_eq_getElem_cons h, List.set_cons_zero, ← upFrom_append k m 1]
  simp [upFrom]

theorem mark_store {H : Heap} {i : Nat} {k : Int} {ys : List Int} {m : Nat} (hm : m < ys.length) (hb : H[i]? = some ⟨ints (upFrom k m ++ ys.drop m), true, true⟩) :
    storeAt H i m [.int .i64 (k + m)] = some (H.set i ⟨ints (upFrom k (m + 1) ++ ys.drop (m + 1)), true, true⟩) := by
  rw [storeAt_of hb rfl rfl (by simp only [ints_length, List.length_append, upFrom_length, List.length_drop, List.length_singleton]; omega) (by simp [Value.oneCell']), over_one (by simp only [ints_length, List.length_append, upFrom_length, List.length_drop]; omega), ints_set, mark_set hm]

theorem markBlockS_ok {H : Heap} {i : Nat} {k : Int} {bs : List Bk} (hu : bs = [] ∨ H[i]? = some ⟨tri bs, true, true⟩) (hl : bs.length ≤ 140737488355328) (hk0 : 0 ≤ k) (hk : k ≤ 1000000000) (Post : Value → Heap → Prop)
    (h : ∀ H', H'.length = H.length → Same (fun j => bs ≠ [] ∧ j = i) H H' → At H' i 0 (ints (upFrom k (bs.length * 3))) → Post (.int .i64 (k + (bs.length * 3 : Nat))) H') :
    ACalls Try.prog 60 [lv 3 i 0 bs.length, .int .i64 k] H Post := by
  refine acalls_vc (rs := [.tmp 4]) Try.func60 rfl rfl Try.ntmps60 rfl rfl ?_
  simp (maxSteps := 1000000) [go_sem]
  have hnl := nums_length bs
  refine AWp.loopVc (fun s : Nat => [(0, lv 3 i 0 bs.length), (1, .int .i64 (k + (s * 3 : Nat))), (5, .int .i64 s)])
    (fun s H' => s ≤ bs.length ∧ H'.length = H.length ∧ Same (fun j => bs ≠ [] ∧ j = i) H H' ∧ (bs ≠ [] → H'[i]? = some ⟨ints (upFrom k (s * 3) ++ (nums bs).drop (s * 3)), true, true⟩)) (fun s => bs.length - s) 0 ?_ ?_ ?_
  · simp [upF, Fr.get, Up.refl]
  · refine ⟨by omega, rfl, Same.refl _ _, fun hne => ?_⟩
    rw [hu.resolve_left hne, tri_nums]; simp [upFrom]
  · rintro K s H' ⟨hs, hlen, hsame, hc⟩ hK
    by_cases hlt : s < bs.length
    · have hne : bs ≠ [] := by rintro rfl; simp at hlt
      simp (maxSteps := 1000000) [go_sem, hlt]
      refine AWp.loopVc (fun t : Nat => [(0, lv 3 i 0 bs.length), (1, .int .i64 (k + (s * 3 + t : Nat))), (5, .int .i64 s), (6, .int .i64 t)])
        (fun t H2 => t ≤ 3 ∧ H2.length = H.length ∧ Same (fun j => bs ≠ [] ∧ j = i) H H2 ∧ H2[i]? = some ⟨ints (upFrom k (s * 3 + t) ++ (nums bs).drop (s * 3 + t)), true, true⟩) (fun t => 3 - t) 0 ?_ ?_ ?_
      · simp [upF, Fr.get, Up.refl]
      · exact ⟨by omega, hlen, hsame, hc hne⟩
      · rintro K2 t H2 ⟨ht, hlen2, hsame2, hc2⟩ hK2
        by_cases htl : t < 3
        · have htl' : (t : Int) < 3 := by omega
          have hw_t : IntKind.i64.wrap ((t : Int) + 1) = (t : Int) + 1 := i64w (by omega) (by omega)
          have hw2 : IntKind.i64.wrap (k + ((s : Int) * 3 + t) + 1) = k + (s * 3 + (t + 1)) := by rw [i64w (by omega) (by omega)]; omega
          have hst := mark_store (k := k) (ys := nums bs) (by omega) hc2
          have e1 : ((s * 3 + t : Nat) : Int) = s * 3 + t := by omega
          rw [e1] at hst
          simp (maxSteps := 1000000) [go_sem, hlt, htl, htl', hst, hw_t, hw2]
          refine hK2 (t + 1) _ _ (by omega) (by simp [upF, Fr.get, Up.refl]) ⟨by omega, by simp [hlen2], hsame2.trans ⟨by simp, fun j hj hjs => List.getElem?_set_ne (fun e => hjs ⟨hne, e.symm⟩)⟩, ?_⟩
          rw [List.getElem?_set_self (List.getElem?_eq_some_iff.1 hc2).1]; rfl
        · have : t = 3 := by omega
          subst this
          have hw_s : IntKind.i64.wrap ((s : Int) + 1) = (s : Int) + 1 := i64w (by omega) (by omega)
          simp (maxSteps := 1000000) [go_sem, hw_s]
          refine hK (s + 1) _ _ (by omega) ?_ ⟨by omega, hlen2, hsame2, fun _ => ?_⟩
          · have e : k + ((s : Int) * 3 + 3) = k + ((s : Int) + 1) * 3 := by omega
            simp [upF, Fr.get, Up.refl, e]
          · rw [Nat.add_mul]; exact hc2
    · have : s = bs.length := by omega
      subst this
      simp (maxSteps := 1000000) [go_sem]
      have := h H' hlen hsame ?_
      · simpa using this
      · by_cases hne : bs = []
        · subst hne; exact .inl rfl
        · have := hc hne
          rw [List.drop_eq_nil_of_le (by omega), List.append_nil] at this
          exact Holds.at ⟨true, this⟩

theorem heldBlockS_ok {H : Heap} {i o : Nat} {k : Int} {n : Nat} (hu : At H i o (ints (upFrom k (n * 3)))) (hl : n ≤ 140737488355328) (hk0 : 0 ≤ k) (hk : k ≤ 1000000000) (Post : Value → Heap → Prop) (h : Post (.int .i64 (k + (n * 3 : Nat))) H) :
    ACalls Try.prog 86 [lv 3 i o n, .int .i64 k] H Post := by
  refine acalls_vc (rs := [.tmp 4]) Try.func86 rfl rfl Try.ntmps86 rfl rfl ?_
  simp (maxSteps := 1000000) [go_sem]
  refine AWp.loopVc (fun s : Nat => [(0, lv 3 i o n), (1, .int .i64 (k + (s * 3 : Nat))), (5, .int .i64 s)])
    (fun s H' => s ≤ n ∧ H' = H) (fun s => n - s) 0 ?_ ?_ ?_
  · simp [upF, Fr.get, Up.refl]
  · simp
  · rintro K s H' ⟨hs, rfl⟩ hK
    by_cases hlt : s < n
    · simp (maxSteps := 1000000) [go_sem, hlt]
      refine AWp.loopVc (fun t : Nat => [(0, lv 3 i o n), (1, .int .i64 (k + (s * 3 + t : Nat))), (5, .int .i64 s), (6, .int .i64 t)])
        (fun t H2 => t ≤ 3 ∧ H2 = H') (fun t => 3 - t) 0 ?_ ?_ ?_
      · simp [upF, Fr.get, Up.refl]
      · simp
      · rintro K2 t H2 ⟨ht, rfl⟩ hK2
        by_cases htl : t < 3
        · have htl' : (t : Int) < 3 := by omega
          have hw_t : IntKind.i64.wrap ((t : Int) + 1) = (t : Int) + 1 := i64w (by omega) (by omega)
          have hw2 : IntKind.i64.wrap (k + ((s : Int) * 3 + t) + 1) = k + (s * 3 + (t + 1)) := by rw [i64w (by omega) (by omega)]; omega
          have c1 := hu.cell (k := s * 3 + t) (v := .int .i64 (k + (s * 3 + t : Nat))) (by rw [ints_get, upFrom_get (by omega)]; rfl)
          rw [← Nat.add_assoc] at c1
          have e1 : ((s * 3 + t : Nat) : Int) = s * 3 + t := by omega
          rw [e1] at c1
          simp (maxSteps := 1000000) [go_sem, hlt, htl, htl', c1, hw_t, hw2]
          exact hK2 (t + 1) _ _ (by omega) (by simp [upF, Fr.get, Up.refl]) ⟨by omega, rfl⟩
        · have : t = 3 := by omega
          subst this
          have hw_s : IntKind.i64.wrap ((s : Int) + 1) = (s : Int) + 1 := i64w (by omega) (by omega)
          simp (maxSteps := 1000000) [go_sem, hw_s]
          refine hK (s + 1) _ _ (by omega) ?_ ⟨by omega, rfl⟩
          have e : k + ((s : Int) * 3 + 3) = k + ((s : Int) + 1) * 3 := by omega
          simp [upF, Fr.get, Up.refl, e]
    · have : s = n := by omega
      subst this
      simp (maxSteps := 1000000) [go_sem]
      simpa using h

end Go.Proofs.Ytdfeoccjllljiaa
end

section
/- The third point of two: both sides. -/
set_option linter.all false
set_option maxRecDepth 20000
namespace Go.Proofs.Ytdfeoccjllljiaa
open Go.Ab

theorem _root_.Go.Ab.IsSys.good {p : Int} {bs : List Bk} (h : IsSys p bs) : ∀ x ∈ bs, good p x = true := by
  intro x hx
  obtain ⟨k, hk⟩ := List.mem_iff_getElem?.1 hx
  exact (h.2.2.1 k x hk).1
theorem _root_.Go.Ab.IsSys.good15 {p : Int} {bs : List Bk} (h : IsSys p bs) : ∀ x ∈ bs, Ab.good 15 x = true := by
  intro x hx
  have := h.good x hx
  have := h.1
  rw [good_iff] at *
  omega
theorem sysB_of {p : Int} {bs : List Bk} (h : sysB p bs = true) : IsSys p bs := sysB_iff.1 h

end Go.Proofs.Ytdfeoccjllljiaa
end

section
/- Degrees: both sides. -/
set_option linter.all false
set_option maxRecDepth 20000
namespace Go.Ab

/-- A list that a call builds, behind the memory H. -/
def Bl (e : Nat) (H H' : Heap) (id : Nat) (cs : List Value) (n : Nat) : Prop := H <+: H' ∧ OL e H' id cs n ∧ H.length ≤ id
theorem Bl.ghost (e : Nat) (H : Heap) : Bl e H (H ++ [⟨[], false, false⟩]) H.length [] 0 := ⟨List.prefix_append _ _, OL.ghost e H, Nat.le_refl _⟩
theorem Bl.nil (e : Nat) (H : Heap) : Bl e H (H ++ [⟨[], true, true⟩]) H.length [] 0 := ⟨List.prefix_append _ _, ⟨by simp, .inr (by simp)⟩, Nat.le_refl _⟩
theorem Bl.pre {e : Nat} {H H' H'' : Heap} {id n : Nat} {cs : List Value} (h : Bl e H H' id cs n) (hp : H' <+: H'') : Bl e H H'' id cs n :=
  ⟨h.1.trans hp, h.2.1.keep (S := fun _ => False) (Same.of_prefix hp) (fun h => h), h.2.2⟩
theorem Bl.push {e : Nat} {H H' : Heap} {id n : Nat} {cs xs : List Value} (h : Bl e H H' id cs n) (he : 0 < e) (hx : xs.length = e) :
    cellsAt (H' ++ [⟨xs, true, true⟩]) H'.length 0 e = some xs ∧ ∃ H3, appendH (H' ++ [⟨xs, true, true⟩]) e (lv e id 0 n) 1 xs = some (lv e (H'.length + 1) 0 (n + 1), H3) ∧ Bl e H H3 (H'.length + 1) (cs ++ xs) (n + 1) := by
  obtain ⟨h1, H3, h2, h3, h4, h5⟩ := h.2.1.push he hx
  refine ⟨h1, H3, h2, ((Same.of_prefix h.1).trans h4).prefix (by have := h.2.2; omega), h3, ?_⟩
  have := h.1.length_le
  omega

end Go.Ab
namespace Go.Proofs.Ytdfeoccjllljiaa
open Go.Ab

end Go.Proofs.Ytdfeoccjllljiaa
end

section
/- Results that a call holds alone, told by the span of the blocks that they lie in; marks on them. -/
set_option linter.all false
set_option maxRecDepth 20000
namespace Go.Proofs.Ytdfeoccjllljiaa
open Go.Ab

/-- The blocks from a to below b. -/
def Span (a b : Nat) (j : Nat) : Prop := a ≤ j ∧ j < b

def IntsIn (a b : Nat) (H : Heap) (v : Value) (xs : List Int) : Prop := ∃ id, OwnInts H v id xs ∧ (xs ≠ [] → Span a b id)
def BlocksIn (a b : Nat) (H : Heap) (v : Value) (bs : List Bk) : Prop := ∃ id, OwnBlocks H v id bs ∧ (bs ≠ [] → Span a b id)
/-- A slice of numbers, marked from k on. -/
def MarkIn (e : Nat) (a b : Nat) (H : Heap) (v : Value) (k : Int) (n : Nat) : Prop := ∃ id, v = lv e id 0 n ∧ At H id 0 (ints (upFrom k (n * e))) ∧ n ≤ 140737488355328 ∧ (n ≠ 0 → Span a b id)

theorem OwnInts.inn {H H' : Heap} {v : Value} {id : Nat} {xs : List Int} (h : OwnInts H' v id xs) (hid : H.length ≤ id) : IntsIn H.length H'.length H' v xs :=
  ⟨id, h, fun hne => ⟨hid, (List.getElem?_eq_some_iff.1 (h.2.1.resolve_left hne)).1⟩⟩
theorem OwnBlocks.inn {H H' : Heap} {v : Value} {id : Nat} {bs : List Bk} (h : OwnBlocks H' v id bs) (hid : H.length ≤ id) : BlocksIn H.length H'.length H' v bs :=
  ⟨id, h, fun hne => ⟨hid, h.lt.resolve_left hne⟩⟩

theorem IntsIn.keep {a b : Nat} {H H' : Heap} {v : Value} {xs : List Int} (h : IntsIn a b H v xs) {S : Nat → Prop} (hs : Same S H H') (hd : ∀ j, Span a b j → ¬ S j) : IntsIn a b H' v xs := by
  obtain ⟨id, h1, h2⟩ := h
  by_cases hne : xs = []
  · subst hne; exact ⟨id, ⟨h1.1, .inl rfl, h1.2.2⟩, h2⟩
  · exact ⟨id, h1.keep hs (hd _ (h2 hne)), h2⟩
theorem BlocksIn.keep {a b : Nat} {H H' : Heap} {v : Value} {bs : List Bk} (h : BlocksIn a b H v bs) {S : Nat → Prop} (hs : Same S H H') (hd : ∀ j, Span a b j → ¬ S j) : BlocksIn a b H' v bs := by
  obtain ⟨id, h1, h2⟩ := h
  by_cases hne : bs = []
  · subst hne; exact ⟨id, ⟨h1.1, .inl rfl, h1.2.2⟩, h2⟩
  · exact ⟨id, OwnBlocks.keep h1 hs (hd _ (h2 hne)), h2⟩
theorem MarkIn.keep {e a b : Nat} {H H' : Heap} {v : Value} {k : Int} {n : Nat} (h : MarkIn e a b H v k n) {S : Nat → Prop} (hs : Same S H H') (hd : ∀ j, Span a b j → ¬ S j) : MarkIn e a b H' v k n := by
  obtain ⟨id, h1, h2, h3, h4⟩ := h
  refine ⟨id, h1, ?_, h3, h4⟩
  rcases h2 with h0 | h2
  · exact .inl h0
  · by_cases hn : n = 0
    · subst hn; left; simp [upFrom, ints]
    · right
      obtain ⟨blk, hb, hbl, hbn, he⟩ := cellsAt_inv h2
      rw [cellsAt_of (hs.get hb (hd _ (h4 hn))) hbl hbn, ← he]
theorem IntsIn.pre {a b : Nat} {H H' : Heap} (hp : H <+: H') {v : Value} {xs : List Int} (h : IntsIn a b H v xs) : IntsIn a b H' v xs := h.keep (S := fun _ => False) (Same.of_prefix hp) (fun _ _ h => h)
theorem BlocksIn.pre {a b : Nat} {H H' : Heap} (hp : H <+: H') {v : Value} {bs : List Bk} (h : BlocksIn a b H v bs) : BlocksIn a b H' v bs := h.keep (S := fun _ => False) (Same.of_prefix hp) (fun _ _ h => h)
theorem MarkIn.pre {e a b : Nat} {H H' : Heap} (hp : H <+: H') {v : Value} {k : Int} {n : Nat} (h : MarkIn e a b H v k n) : MarkIn e a b H' v k n := h.keep (S := fun _ => False) (Same.of_prefix hp) (fun _ _ h => h)
theorem IntsIn.read {a b : Nat} {H : Heap} {v : Value} {xs : List Int} (h : IntsIn a b H v xs) : IntsAt H v xs := by obtain ⟨id, h, _⟩ := h; exact h.read
theorem BlocksIn.read {a b : Nat} {H : Heap} {v : Value} {bs : List Bk} (h : BlocksIn a b H v bs) : BlocksAt H v bs := by obtain ⟨id, h, _⟩ := h; exact OwnBlocks.read h
theorem IntsIn.one {a b : Nat} {H : Heap} {v : Value} {xs : List Int} (h : IntsIn a b H v xs) : v.oneCell' = true := h.read.one
theorem BlocksIn.one {a b : Nat} {H : Heap} {v : Value} {bs : List Bk} (h : BlocksIn a b H v bs) : v.oneCell' = true := h.read.one
theorem IntsIn.nil (a b : Nat) (H : Heap) : IntsIn a b H (lv 1 0 0 0) [] := ⟨0, ⟨rfl, .inl rfl, by simp⟩, fun h => absurd rfl h⟩
theorem BlocksIn.nil (a b : Nat) (H : Heap) : BlocksIn a b H (lv 3 0 0 0) [] := ⟨0, ⟨rfl, .inl rfl, by simp⟩, fun h => absurd rfl h⟩
theorem IntsIn.wider {a b c : Nat} {H : Heap} {v : Value} {xs : List Int} (h : IntsIn a b H v xs) (hc : c ≤ a) : IntsIn c b H v xs := by
  obtain ⟨id, h1, h2⟩ := h; exact ⟨id, h1, fun hne => ⟨Nat.le_trans hc (h2 hne).1, (h2 hne).2⟩⟩
theorem BlocksIn.wider {a b c : Nat} {H : Heap} {v : Value} {bs : List Bk} (h : BlocksIn a b H v bs) (hc : c ≤ a) : BlocksIn c b H v bs := by
  obtain ⟨id, h1, h2⟩ := h; exact ⟨id, h1, fun hne => ⟨Nat.le_trans hc (h2 hne).1, (h2 hne).2⟩⟩

theorem markBlocks_ok {a b : Nat} {H : Heap} {v : Value} {bs : List Bk} {k : Int} (h : BlocksIn a b H v bs) (hk0 : 0 ≤ k) (hk : k ≤ 1000000000) (Post : Value → Heap → Prop)
    (hP : ∀ H', Same (Span a b) H H' → MarkIn 3 a b H' v k bs.length → Post (.int .i64 (k + (bs.length * 3 : Nat))) H') : ACalls Try.prog 60 [v, .int .i64 k] H Post := by
  obtain ⟨id, ⟨rfl, h1, h2⟩, h3⟩ := h
  refine markBlockS_ok h1 h2 hk0 hk _ fun H' _ hs ha => hP H' (hs.mono fun j _ ⟨hne, e⟩ => e ▸ h3 hne) ⟨id, rfl, ha, h2, fun hn => h3 (by rintro rfl; simp at hn)⟩
theorem heldBlocks_ok {a b : Nat} {H : Heap} {v : Value} {n : Nat} {k : Int} (h : MarkIn 3 a b H v k n) (hk0 : 0 ≤ k) (hk : k ≤ 1000000000) (Post : Value → Heap → Prop)
    (hP : Post (.int .i64 (k + (n * 3 : Nat))) H) : ACalls Try.prog 86 [v, .int .i64 k] H Post := by
  obtain ⟨id, rfl, h1, h2, h3⟩ := h
  exact heldBlockS_ok h1 h2 hk0 hk _ hP
end Go.Proofs.Ytdfeoccjllljiaa
end

section
/- Results that are lists of lists, held alone; marks on them. -/
set_option linter.all false
set_option maxRecDepth 20000
namespace Go.Proofs.Ytdfeoccjllljiaa
open Go.Ab

def RowsIn (a b : Nat) (H : Heap) (v : Value) (xss : List (List Int)) : Prop :=
  ∃ (id : Nat) (rows : List (Nat × List Int)), v = lv 1 id 0 rows.length ∧ At H id 0 (rows.map rowVal) ∧ Rows1 H rows ∧ (∀ r ∈ rows, r.2 ≠ [] → r.1 ≠ id ∧ Span a b r.1) ∧ rows.map (·.2) = xss ∧ (rows ≠ [] → Span a b id) ∧ xss.flatten.length ≤ 140737488355328 ∧ rows.length ≤ 140737488355328
/-- Lists of numbers that were marked. -/
def MarkRows (a b : Nat) (H : Heap) (v : Value) (k : Int) (xss : List (List Int)) : Prop :=
  ∃ (id : Nat) (rows : List (Nat × List Int)), v = lv 1 id 0 rows.length ∧ At H id 0 (rows.map rowVal) ∧ (∀ r ∈ rows, At H r.1 0 (ints r.2) ∧ (r.2 ≠ [] → Span a b r.1)) ∧ rows.map (·.2) = marked k xss ∧ (rows ≠ [] → Span a b id) ∧ xss.flatten.length ≤ 140737488355328 ∧ rows.length ≤ 140737488355328

theorem flat_le {rows : List (Nat × List Int)} {r : Nat × List Int} (h : r ∈ rows) : r.2.length ≤ (rows.map (·.2)).flatten.length := by
  exact (List.sublist_flatten_of_mem (List.mem_map_of_mem (f := fun r : Nat × List Int => r.2) h)).length_le
theorem At.keepS {H H' : Heap} {S : Nat → Prop} (hs : Same S H H') {i o : Nat} {cs : List Value} (h : At H i o cs) (hi : cs ≠ [] → ¬ S i) : At H' i o cs := by
  rcases h with h0 | h
  · exact .inl h0
  · by_cases hc : cs = []
    · exact .inl hc
    · right
      obtain ⟨blk, hb, hbl, hbn, he⟩ := cellsAt_inv h
      rw [cellsAt_of (hs.get hb (hi hc)) hbl hbn, ← he]
theorem RowsIn.own {a b : Nat} {H : Heap} {v : Value} {xss : List (List Int)} (h : RowsIn a b H v xss) : ∃ rows, OwnRows H v rows ∧ rows.map (·.2) = xss ∧ ∀ r ∈ rows, r.2 ≠ [] → Span a b r.1 := by
  obtain ⟨id, rows, h1, h2, h3, h4, h5, h6, h7, h8⟩ := h
  exact ⟨rows, ⟨id, h1, h2, h3, fun r hr hn => (h4 r hr hn).1, h8, fun r hr => by have := flat_le hr; rw [h5] at this; omega⟩, h5, fun r hr hn => (h4 r hr hn).2⟩
theorem RowsIn.keep {a b : Nat} {H H' : Heap} {v : Value} {xss : List (List Int)} (h : RowsIn a b H v xss) {S : Nat → Prop} (hs : Same S H H') (hd : ∀ j, Span a b j → ¬ S j) : RowsIn a b H' v xss := by
  obtain ⟨id, rows, h1, h2, h3, h4, h5, h6, h7, h8⟩ := h
  refine ⟨id, rows, h1, At.keepS hs h2 (fun hn => hd _ (h6 (by rintro rfl; exact hn rfl))), ⟨fun r hr => ?_, h3.2⟩, h4, h5, h6, h7, h8⟩
  by_cases hn : r.2 = []
  · exact .inl hn
  · exact .inr (hs.get ((h3.1 r hr).resolve_left hn) (hd _ (h4 r hr hn).2))
theorem MarkRows.keep {a b : Nat} {H H' : Heap} {v : Value} {k : Int} {xss : List (List Int)} (h : MarkRows a b H v k xss) {S : Nat → Prop} (hs : Same S H H') (hd : ∀ j, Span a b j → ¬ S j) : MarkRows a b H' v k xss := by
  obtain ⟨id, rows, h1, h2, h3, h5, h6, h7, h8⟩ := h
  refine ⟨id, rows, h1, At.keepS hs h2 (fun hn => hd _ (h6 (by rintro rfl; exact hn rfl))), fun r hr => ⟨At.keepS hs (h3 r hr).1 (fun hn => hd _ ((h3 r hr).2 (by intro e; rw [e] at hn; exact hn rfl))), (h3 r hr).2⟩, h5, h6, h7, h8⟩
theorem RowsIn.pre {a b : Nat} {H H' : Heap} (hp : H <+: H') {v : Value} {xss : List (List Int)} (h : RowsIn a b H v xss) : RowsIn a b H' v xss := h.keep (S := fun _ => False) (Same.of_prefix hp) (fun _ _ h => h)
theorem MarkRows.pre {a b : Nat} {H H' : Heap} (hp : H <+: H') {v : Value} {k : Int} {xss : List (List Int)} (h : MarkRows a b H v k xss) : MarkRows a b H' v k xss := h.keep (S := fun _ => False) (Same.of_prefix hp) (fun _ _ h => h)
theorem RowsIn.read {a b : Nat} {H : Heap} {v : Value} {xss : List (List Int)} (h : RowsIn a b H v xss) : IntssAt H v xss := by
  obtain ⟨rows, h1, h2, _⟩ := h.own; exact h2 ▸ h1.read
theorem RowsIn.one {a b : Nat} {H : Heap} {v : Value} {xss : List (List Int)} (h : RowsIn a b H v xss) : v.oneCell' = true := by
  obtain ⟨id, rows, rfl, _⟩ := h; rfl
theorem RowsIn.nil (a b : Nat) (H : Heap) : RowsIn a b H (lv 1 0 0 0) [] := ⟨0, [], rfl, .inl rfl, ⟨by simp, by simp⟩, by simp, rfl, fun h => absurd rfl h, by simp, by simp⟩
theorem RowsIn.wider {a b c : Nat} {H : Heap} {v : Value} {xss : List (List Int)} (h : RowsIn a b H v xss) (hc : c ≤ a) : RowsIn c b H v xss := by
  obtain ⟨id, rows, h1, h2, h3, h4, h5, h6, h7, h8⟩ := h
  exact ⟨id, rows, h1, h2, h3, fun r hr hn => ⟨(h4 r hr hn).1, Nat.le_trans hc (h4 r hr hn).2.1, (h4 r hr hn).2.2⟩, h5, fun hn => ⟨Nat.le_trans hc (h6 hn).1, (h6 hn).2⟩, h7, h8⟩
theorem MarkRows.one {a b : Nat} {H : Heap} {v : Value} {k : Int} {xss : List (List Int)} (h : MarkRows a b H v k xss) : v.oneCell' = true := by
  obtain ⟨id, rows, rfl, _⟩ := h; rfl
theorem MarkRows.read {a b : Nat} {H : Heap} {v : Value} {k : Int} {xss : List (List Int)} (h : MarkRows a b H v k xss) : IntssAt H v (marked k xss) := by
  obtain ⟨id, rows, rfl, h2, h3, h5, h6, h7, h8⟩ := h
  have hl : rows.length = (marked k xss).length := by rw [← h5, List.length_map]
  refine ⟨id, 0, rows.map rowVal, by rw [hl], by simp [hl], h2, ?_, by omega⟩
  intro j u ys hu hx
  rw [← h5] at hx
  simp only [List.getElem?_map, Option.map_eq_some_iff] at hu hx
  obtain ⟨r, hr, rfl⟩ := hu
  obtain ⟨r', hr', rfl⟩ := hx
  rw [hr] at hr'; cases hr'
  have hm := List.mem_of_getElem? hr
  refine ⟨r.1, 0, rfl, (h3 r hm).1, ?_⟩
  have := flat_le hm
  rw [h5, marked_total] at this; omega

/-- What a call has built. -/
theorem _root_.Go.Ab.Build.inn {H H' : Heap} {oid : Nat} {rows : List (Nat × List Int)} (h : Build H H' oid rows) (hl : (rows.map (·.2)).flatten.length ≤ 140737488355328) (hl' : rows.length ≤ 140737488355328) : RowsIn H.length H'.length H' (lv 1 oid 0 rows.length) (rows.map (·.2)) :=
  ⟨oid, rows, rfl, h.ol.at, h.rows1, fun r hr _ => ⟨(h.ids r hr).2.2, (h.ids r hr).1, (h.ids r hr).2.1⟩, rfl, fun _ => ⟨h.ge, h.ol.lt⟩, hl, hl'⟩

end Go.Proofs.Ytdfeoccjllljiaa
end

section
/- Lists of lists that are built by literals; heaps of which less is said. No statement of the seat is proved here; it holds for every program. -/
set_option linter.all false
namespace Go.Ab

def upH (H H' : Heap) : Prop := ∀ B w0 ρ w, R B w0 ρ H w → R B w0 ρ H' w
theorem upH.refl (H : Heap) : upH H H := fun _ _ _ _ h => h
theorem upH.cells {H : Heap} {id : Nat} {cs cs' : List Value} {li ow : Bool} (hb : H[id]? = some ⟨cs, li, ow⟩) (hl : cs'.length = cs.length)
    (hu : ∀ (k : Nat) (v v' : Value), cs[k]? = some v → cs'[k]? = some v' → Up H v v') : upH H (H.set id ⟨cs', li, ow⟩) := by
  intro B w0 ρ w hR
  have hlt := (List.getElem?_eq_some_iff.1 hb).1
  have key : ∀ (i : Nat) (b : Blk), (H.set id ⟨cs', li, ow⟩)[i]? = some b → (i = id ∧ b = ⟨cs', li, ow⟩) ∨ (i ≠ id ∧ H[i]? = some b) := by
    intro i b h
    by_cases e : i = id
    · subst e; rw [List.getElem?_set_self hlt] at h; exact .inl ⟨rfl, (Option.some.inj h).symm⟩
    · rw [List.getElem?_set_ne (fun h => e h.symm)] at h; exact .inr ⟨e, h⟩
  -- the block that stood there
  have old : ∀ (i : Nat) (b : Blk), (H.set id ⟨cs', li, ow⟩)[i]? = some b → ∃ b', H[i]? = some b' ∧ b'.live = b.live ∧ b'.own = b.own := by
    intro i b h
    rcases key i b h with ⟨rfl, rfl⟩ | ⟨_, h⟩
    · exact ⟨_, hb, rfl, rfl⟩
    · exact ⟨b, h, rfl, rfl⟩
  refine ⟨by rw [List.length_set]; exact hR.len, hR.below, hR.base, ?_, ?_, ?_⟩
  · intro i b l h hl' hlive
    rcases key i b h with ⟨rfl, rfl⟩ | ⟨_, h⟩
    · obtain ⟨arr, elem, fz, h1, h2, h3, h4⟩ := hR.blk i _ l hb hl' hlive
      refine ⟨arr, elem, fz, h1, h2, ?_, h4⟩
      intro k v hk
      have hk' : k < cs.length := by have := (List.getElem?_eq_some_iff.1 hk).1; simp only at this; omega
      obtain ⟨h5, cv, h6, h7⟩ := h3 k cs[k] (List.getElem?_eq_getElem hk')
      have h8 := hu k _ v (List.getElem?_eq_getElem hk') hk _ _ _ _ _ hR h7
      exact ⟨by rw [h8.oneCell, ← h7.oneCell]; exact h5, cv, h6, h8⟩
    · exact hR.blk i b l h hl' hlive
  · intro i j b c l m hij h1 h2 h3 h4 h5 h6 h7
    obtain ⟨b', e1, e2, e3⟩ := old i b h1
    obtain ⟨c', f1, f2, f3⟩ := old j c h2
    exact hR.apart i j b' c' l m hij e1 f1 h3 h4 (by rw [e2]; exact h5) (by rw [f2]; exact h6) (by rw [e3]; exact h7)
  · intro i b l h1 h2 h3 h4
    obtain ⟨b', e1, e2, e3⟩ := old i b h1
    exact hR.ghost i b' l e1 h2 (by rw [e2]; exact h3) (by rw [e3]; exact h4)

/-- The result and the memory may be said less of. -/
theorem ACalls.resH {P : Program} {f : FuncId} {args : List Value} {H : Heap} {Post : Value → Heap → Prop} (h : ACalls P f args H fun v H' => ∃ v' H2, Up H' v v' ∧ upH H' H2 ∧ Post v' H2) : ACalls P f args H Post :=
  ⟨h.1, fun B w0 ρ w cargs hR hv => (h.2 B w0 ρ w cargs hR hv).mono fun e w' hp => by
    obtain ⟨ρ', H', v, cv, h1, h2, h3, h4, v', H2, h5, h6, h7⟩ := hp
    exact ⟨ρ', H2, v', cv, h1, h2, h6 _ _ _ _ h3, h5 _ _ _ _ _ h3 h4, h7⟩⟩

def rowX (r : Nat × List Int) : Value := .slice (some ⟨r.1, 0, none⟩) r.2.length r.2.length

/-- A list of lists while it is built. -/
structure BuildX (H0 H : Heap) (oid : Nat) (rows : List (Nat × List Int)) : Prop where
  pre : H0 <+: H
  ol : OL 1 H oid (rows.map rowX) rows.length
  ge : H0.length ≤ oid
  rows1 : Rows1 H rows
  ids : ∀ r ∈ rows, H0.length ≤ r.1 ∧ r.1 < H.length ∧ r.1 ≠ oid

theorem BuildX.start (H : Heap) : BuildX H (H ++ [⟨[], false, false⟩]) H.length [] :=
  ⟨List.prefix_append _ _, OL.ghost 1 H, Nat.le_refl _, ⟨by simp, by simp⟩, by simp⟩

theorem BuildX.of_ol {H0 H : Heap} {oid : Nat} (hp : H0 <+: H) (h : OL 1 H oid [] 0) (hg : H0.length ≤ oid) : BuildX H0 H oid [] :=
  ⟨hp, h, hg, ⟨by simp, by simp⟩, by simp⟩

theorem BuildX.push {H0 H1 H2 : Heap} {oid rid : Nat} {rows : List (Nat × List Int)} {xs : List Int} (h : BuildX H0 H1 oid rows) (hp : H1 <+: H2) (hr : OL 1 H2 rid (ints xs) xs.length) (hrid : H1.length ≤ rid) :
    cellsAt (H2 ++ [⟨[(.slice (some ⟨rid, 0, none⟩) xs.length xs.length)], true, true⟩]) H2.length 0 1 = some [(.slice (some ⟨rid, 0, none⟩) xs.length xs.length)] ∧
    ∃ H4, appendH (H2 ++ [⟨[(.slice (some ⟨rid, 0, none⟩) xs.length xs.length)], true, true⟩]) 1 (lv 1 oid 0 rows.length) 1 [(.slice (some ⟨rid, 0, none⟩) xs.length xs.length)] = some (lv 1 (H2.length + 1) 0 (rows.length + 1), H4) ∧ BuildX H0 H4 (H2.length + 1) (rows ++ [(rid, xs)]) := by
  have hol' : OL 1 H2 oid (rows.map rowX) rows.length := h.ol.keep (S := fun _ => False) (Same.of_prefix hp) (fun h => h)
  obtain ⟨hsrc, H4, hap, hol4, hsame4, hlen4⟩ := hol'.push (xs := [(.slice (some ⟨rid, 0, none⟩) xs.length xs.length)]) (by omega) rfl
  have hoid := h.ol.lt
  have hle := hp.length_le
  have hle0 := h.pre.length_le
  have hlt := hr.lt
  refine ⟨hsrc, H4, hap, ⟨(show Same (fun j => j = oid) H0 H4 from (Same.of_prefix (h.pre.trans hp)).trans hsame4).prefix (by have := h.ge; omega), by simpa [rowX] using hol4, by omega, ⟨?_, ?_⟩, ?_⟩⟩
  · intro r hm
    rcases List.mem_append.1 hm with hm | hm
    · refine (h.rows1.1 r hm).imp (fun h => h) fun hb => ?_
      exact hsame4.get (Same.get (S := fun _ => False) (Same.of_prefix hp) hb (fun h => h)) (h.ids r hm).2.2
    · simp at hm; subst hm
      rcases hr.2 with ⟨h0, _⟩ | h0
      · exact .inl (List.eq_nil_of_length_eq_zero h0)
      · right
        exact hsame4.get h0 (by simp only; omega)
  · intro a b r t ha hb hab hrn htn
    have key : ∀ (a : Nat) (r : Nat × List Int), (rows ++ [(rid, xs)])[a]? = some r → (a < rows.length ∧ rows[a]? = some r) ∨ (a = rows.length ∧ r = (rid, xs)) := by
      intro a r ha
      rcases Nat.lt_or_ge a rows.length with h | h
      · rw [List.getElem?_append_left h] at ha; exact .inl ⟨h, ha⟩
      · rw [List.getElem?_append_right h] at ha
        cases hk : a - rows.length with
        | zero => rw [hk] at ha; simp at ha; exact .inr ⟨by omega, ha.symm⟩
        | succ k => rw [hk] at ha; simp at ha
    rcases key a r ha with ⟨h1, h1'⟩ | ⟨h1, rfl⟩
    · rcases key b t hb with ⟨h2, h2'⟩ | ⟨h2, rfl⟩
      · exact h.rows1.2 a b r t h1' h2' hab hrn htn
      · have := (h.ids r (List.mem_of_getElem? h1')).2.1; simp only; omega
    · rcases key b t hb with ⟨h2, h2'⟩ | ⟨h2, rfl⟩
      · have := (h.ids t (List.mem_of_getElem? h2')).2.1; simp only; omega
      · omega
  · intro r hm
    rcases List.mem_append.1 hm with hm | hm
    · have := h.ids r hm
      omega
    · simp at hm; subst hm; simp only; omega


theorem BuildX.keep {H0 H H' : Heap} {oid : Nat} {rows : List (Nat × List Int)} (h : BuildX H0 H oid rows) (hp : H <+: H') : BuildX H0 H' oid rows :=
  ⟨h.pre.trans hp, h.ol.keep (S := fun _ => False) (Same.of_prefix hp) (fun h => h), h.ge, ⟨fun r hr => (h.rows1.1 r hr).imp (fun h => h) fun hb => Same.get (S := fun _ => False) (Same.of_prefix hp) hb (fun h => h), h.rows1.2⟩,
    fun r hr => ⟨(h.ids r hr).1, Nat.lt_of_lt_of_le (h.ids r hr).2.1 hp.length_le, (h.ids r hr).2.2⟩⟩
/-- The list built, its rows as slices of unknown room. -/
theorem BuildX.fin {H0 H : Heap} {oid : Nat} {rows : List (Nat × List Int)} (h : BuildX H0 H oid rows) : ∃ H2, upH H H2 ∧ Build H0 H2 oid rows := by
  obtain ⟨hl, h0 | hb⟩ := h.ol
  · have : rows = [] := List.eq_nil_of_length_eq_zero h0.1
    subst this
    exact ⟨H, upH.refl H, Build.of_ol h.pre ⟨rfl, .inl ⟨rfl, h0.2⟩⟩ h.ge⟩
  · have hlt := (List.getElem?_eq_some_iff.1 hb).1
    refine ⟨H.set oid ⟨rows.map rowVal, true, true⟩, upH.cells hb (by simp) ?_, ?_, ⟨by simp, .inr (List.getElem?_set_self hlt)⟩, h.ge, ⟨?_, h.rows1.2⟩, ?_⟩
    · intro k v v' hv hv'
      simp only [List.getElem?_map, Option.map_eq_some_iff] at hv hv'
      obtain ⟨r, hr, rfl⟩ := hv
      obtain ⟨r', hr', rfl⟩ := hv'
      rw [hr] at hr'; cases hr'
      refine Up.ex (by omega) ?_
      rcases h.rows1.1 r (List.mem_of_getElem? hr) with e | e
      · left; rw [e]; rfl
      · right
        rw [cellsAt_of e rfl (by simp [ints])]; rfl
    · have hs : Same (fun j => j = oid) H (H.set oid ⟨rows.map rowVal, true, true⟩) := ⟨by simp, fun j hj hS => List.getElem?_set_ne (fun e => hS e.symm)⟩
      exact ((Same.of_prefix h.pre).trans hs).prefix (by intro j hj e; have := h.ge; omega)
    · intro r hr
      refine (h.rows1.1 r hr).imp (fun h => h) fun hb' => ?_
      rw [List.getElem?_set_ne (fun e => (h.ids r hr).2.2 e.symm)]; exact hb'
    · intro r hr
      have := h.ids r hr
      rw [List.length_set]; exact this

end Go.Ab
end
