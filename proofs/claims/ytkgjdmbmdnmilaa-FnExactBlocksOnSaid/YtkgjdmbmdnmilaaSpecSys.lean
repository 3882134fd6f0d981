/- What the specification's functions on systems compute. -/
import Derived.Test.YtkgjdmbmdnmilaaLaw2
import Derived.Test.YtkgjdmbmdnmilaaSquare
import Derived.Test.YtkgjdmbmdnmilaaSysLaw
set_option linter.all false
set_option maxRecDepth 20000
namespace Go.Proofs.Ytkgjdmbmdnmilaa
open Go.Ab

theorem l01Good_ok {H : Heap} {v : Int} {b : Bk} (Post : Value → Heap → Prop) (h : ∀ H', H <+: H' → Post (.bool (good v b)) H') :
    ACalls Try.prog 156 [.int .i64 v, b.val] H Post := by
  refine acalls_vc (rs := [.tmp 4]) Try.func156 rfl rfl Try.ntmps156 rfl rfl ?_
  obtain ⟨a, b, c⟩ := b
  have h := h _ (List.prefix_append H [⟨[.int .i64 a, .int .i64 b, .int .i64 c], true, true⟩])
  simp only [good] at h
  by_cases h1 : 0 ≤ a
  · by_cases h2 : a < b
    · by_cases h3 : b < c
      · simp (maxSteps := 1000000) [go_sem, Bk.val, Value.oneCell', h1, h2, h3] at h ⊢
        exact h
      · simp (maxSteps := 1000000) [go_sem, Bk.val, Value.oneCell', h1, h2, h3] at h ⊢
        exact h
    · simp (maxSteps := 1000000) [go_sem, Bk.val, Value.oneCell', h1, h2] at h ⊢
      exact h
  · simp (maxSteps := 1000000) [go_sem, Bk.val, Value.oneCell', h1] at h ⊢
    exact h

theorem l01Before_ok {H : Heap} {b d : Bk} (Post : Value → Heap → Prop) (h : ∀ H', H <+: H' → Post (.bool (before b d)) H') :
    ACalls Try.prog 157 [b.val, d.val] H Post := by
  refine acalls_vc (rs := [.tmp 4]) Try.func157 rfl rfl Try.ntmps157 rfl rfl ?_
  obtain ⟨b1, b2, b3⟩ := b
  obtain ⟨d1, d2, d3⟩ := d
  simp (maxSteps := 1000000) [go_sem, Bk.val, Value.oneCell']
  have h := h _ (List.prefix_append H [⟨[.int .i64 b1, .int .i64 b2, .int .i64 b3], true, true⟩, ⟨[.int .i64 d1, .int .i64 d2, .int .i64 d3], true, true⟩])
  simp only [before] at h
  refine AWp.loopVc (fun s : Nat => [(2, .pointer (some ⟨H.length, 0, none⟩)), (3, .pointer (some ⟨H.length + 1, 0, none⟩)), (5, .int .i64 s)])
    (fun s H' => s ≤ 3 ∧ H' = H ++ [⟨[.int .i64 b1, .int .i64 b2, .int .i64 b3], true, true⟩, ⟨[.int .i64 d1, .int .i64 d2, .int .i64 d3], true, true⟩] ∧ [b1, b2, b3].take s = [d1, d2, d3].take s) (fun s => 3 - s) 0 ?_ ?_ ?_
  · simp [upF, Fr.get, Up.refl]
  · simp
  · rintro K s H' ⟨hs, rfl, ht⟩ hK
    have cn : List (Nat × Bool) := []
    have : s = 0 ∨ s = 1 ∨ s = 2 ∨ s = 3 := by omega
    rcases this with rfl | rfl | rfl | rfl
    · simp (maxSteps := 1000000) [go_sem]
      refine AWp.draw mixed [(0, false), (1, false), (2, false), (3, false), (4, false), (5, false), (6, false)] (by kernel_rfl) ?_
      simp (maxSteps := 1000000) [go_sem, i64w (n := 1) (by omega) (by omega)]
      refine condK_intro (fun hne => ?_) (fun heq => ?_)
      · refine AWp.draw mixed [(0, false), (1, false), (2, false), (3, false), (4, false), (5, false), (6, false), (7, false)] (by kernel_rfl) ?_
        simp (maxSteps := 1000000) [go_sem]
        simp at hne; simpa [hne] using h
      · exact hK 1 _ _ (by omega) (by simp [upF, Fr.get, Up.refl]) ⟨by omega, rfl, by simpa using heq⟩
    · simp (maxSteps := 1000000) [go_sem]
      refine AWp.draw mixed [(0, false), (1, false), (2, false), (3, false), (4, false), (5, false), (6, false)] (by kernel_rfl) ?_
      simp (maxSteps := 1000000) [go_sem, i64w (n := 2) (by omega) (by omega)]
      refine condK_intro (fun hne => ?_) (fun heq => ?_)
      · refine AWp.draw mixed [(0, false), (1, false), (2, false), (3, false), (4, false), (5, false), (6, false), (7, false)] (by kernel_rfl) ?_
        simp (maxSteps := 1000000) [go_sem]
        simp at hne ht; simpa [hne, ht] using h
      · exact hK 2 _ _ (by omega) (by simp [upF, Fr.get, Up.refl]) ⟨by omega, rfl, by simp at ht heq; simp [ht, heq]⟩
    · simp (maxSteps := 1000000) [go_sem]
      refine AWp.draw mixed [(0, false), (1, false), (2, false), (3, false), (4, false), (5, false), (6, false)] (by kernel_rfl) ?_
      simp (maxSteps := 1000000) [go_sem, i64w (n := 3) (by omega) (by omega)]
      refine condK_intro (fun hne => ?_) (fun heq => ?_)
      · refine AWp.draw mixed [(0, false), (1, false), (2, false), (3, false), (4, false), (5, false), (6, false), (7, false)] (by kernel_rfl) ?_
        simp (maxSteps := 1000000) [go_sem]
        simp at hne ht; simpa [hne, ht] using h
      · exact hK 3 _ _ (by omega) (by simp [upF, Fr.get, Up.refl]) ⟨by omega, rfl, by simp at ht heq; simp [ht, heq]⟩
    · simp (maxSteps := 1000000) [go_sem]
      simp at ht
      simpa [ht] using h

theorem l01Common_ok {H : Heap} {b d : Bk} (Post : Value → Heap → Prop) (h : ∀ H', H <+: H' → Post (.int .i64 (common b d)) H') :
    ACalls Try.prog 195 [b.val, d.val] H Post := by
  refine acalls_vc (rs := [.tmp 4]) Try.func195 rfl rfl Try.ntmps195 rfl rfl ?_
  obtain ⟨b1, b2, b3⟩ := b
  obtain ⟨d1, d2, d3⟩ := d
  simp (maxSteps := 1000000) [go_sem, Bk.val, Value.oneCell']
  obtain ⟨H1, hH1⟩ : ∃ H1, H1 = H ++ [⟨[.int .i64 b1, .int .i64 b2, .int .i64 b3], true, true⟩, ⟨[.int .i64 d1, .int .i64 d2, .int .i64 d3], true, true⟩] := ⟨_, rfl⟩
  have h := h H1 (by rw [hH1]; exact List.prefix_append _ _)
  have l1 : ∀ i : Nat, i < 3 → cellsAt H1 H.length i 1 = some [.int .i64 (Bk.nth ⟨b1, b2, b3⟩ i)] := by
    intro i hi
    have : i = 0 ∨ i = 1 ∨ i = 2 := by omega
    rcases this with rfl | rfl | rfl <;> simp [hH1, go_sem, Bk.nth]
  have l2 : ∀ i : Nat, i < 3 → cellsAt H1 (H.length + 1) i 1 = some [.int .i64 (Bk.nth ⟨d1, d2, d3⟩ i)] := by
    intro i hi
    have : i = 0 ∨ i = 1 ∨ i = 2 := by omega
    rcases this with rfl | rfl | rfl <;> simp [hH1, go_sem, Bk.nth]
  rw [← hH1]
  refine AWp.loopVc (fun s : Nat => [(2, .pointer (some ⟨H.length, 0, none⟩)), (3, .pointer (some ⟨H.length + 1, 0, none⟩)), (5, .int .i64 (cnt ⟨b1, b2, b3⟩ ⟨d1, d2, d3⟩ s 0)), (6, .int .i64 s)])
    (fun s H' => s ≤ 3 ∧ H' = H1) (fun s => 3 - s) 0 ?_ ?_ ?_
  · simp [upF, Fr.get, Up.refl, cnt]
  · simp
  · rintro K s H' ⟨hs, rfl⟩ hK
    by_cases hlt : s < 3
    · have hlt' : (s : Int) < 3 := by omega
      simp (maxSteps := 1000000) [go_sem, hlt, hlt']
      refine AWp.loopVc (fun t : Nat => [(2, .pointer (some ⟨H.length, 0, none⟩)), (3, .pointer (some ⟨H.length + 1, 0, none⟩)), (5, .int .i64 (cnt ⟨b1, b2, b3⟩ ⟨d1, d2, d3⟩ s t)), (6, .int .i64 s), (7, .int .i64 t)])
        (fun t H2 => t ≤ 3 ∧ H2 = H') (fun t => 3 - t) 0 ?_ ?_ ?_
      · simp [upF, Fr.get, Up.refl]
      · simp
      · rintro K2 t H2 ⟨ht, rfl⟩ hK2
        by_cases htl : t < 3
        · have c1 := l1 s hlt
          have c2 := l2 t htl
          have hw : IntKind.i64.wrap ((t : Int) + 1) = (t : Int) + 1 := i64w (by omega) (by omega)
          have hle := cnt_le ⟨b1, b2, b3⟩ ⟨d1, d2, d3⟩ s t
          have hw2 : IntKind.i64.wrap ((cnt ⟨b1, b2, b3⟩ ⟨d1, d2, d3⟩ s t : Int) + 1) = (cnt ⟨b1, b2, b3⟩ ⟨d1, d2, d3⟩ s t : Int) + 1 := i64w (by omega) (by omega)
          have hst := cnt_succ ⟨b1, b2, b3⟩ ⟨d1, d2, d3⟩ s htl
          have htl' : (t : Int) < 3 := by omega
          simp (maxSteps := 1000000) [go_sem, htl, htl']
          refine AWp.draw mixed [(0, false), (1, false), (2, false), (3, false), (4, false), (5, false), (6, false)] (by kernel_rfl) ?_
          simp (maxSteps := 1000000) [go_sem, hlt, htl, hlt', htl', c1, c2, hw, hw2]
          refine condK_intro (fun heq => ?_) (fun hne => ?_)
          · refine hK2 (t + 1) _ _ (by omega) ?_ ⟨by omega, rfl⟩
            have : eq01 (Bk.nth ⟨b1, b2, b3⟩ s) (Bk.nth ⟨d1, d2, d3⟩ t) = 1 := by rw [eq01, if_pos (by simpa using heq)]
            simp [upF, Fr.get, Up.refl, hst, this]
          · refine hK2 (t + 1) _ _ (by omega) ?_ ⟨by omega, rfl⟩
            have : eq01 (Bk.nth ⟨b1, b2, b3⟩ s) (Bk.nth ⟨d1, d2, d3⟩ t) = 0 := by rw [eq01, if_neg (by simpa using hne)]
            simp [upF, Fr.get, Up.refl, hst, this]
        · have : t = 3 := by omega
          subst this
          have hw : IntKind.i64.wrap ((s : Int) + 1) = (s : Int) + 1 := i64w (by omega) (by omega)
          simp (maxSteps := 1000000) [go_sem, hw]
          refine hK (s + 1) _ _ (by omega) ?_ ⟨by omega, rfl⟩
          have := cnt_end ⟨b1, b2, b3⟩ ⟨d1, d2, d3⟩ hlt
          simp [upF, Fr.get, Up.refl, this]
    · have : s = 3 := by omega
      subst this
      simp (maxSteps := 1000000) [go_sem]
      rw [cnt_all]; exact h

theorem l01Fits_ok {H : Heap} {u : Value} {bs : List Bk} (hu : BlocksAt H u bs) (Post : Value → Heap → Prop) (h : ∀ H' b, H <+: H' → (b = true ↔ Fits bs) → Post (.bool b) H') :
    ACalls Try.prog 158 [u] H Post := by
  obtain ⟨i, o, rfl, h1, h2⟩ := hu
  refine acalls_vc (rs := [.tmp 2]) Try.func158 rfl rfl Try.ntmps158 rfl rfl ?_
  simp (maxSteps := 1000000) [go_sem]
  refine AWp.loopVc (fun s : Nat => [(0, lv 3 i o bs.length), (3, .int .i64 s)])
    (fun s H' => s ≤ bs.length ∧ H <+: H' ∧ ∀ (a k : Nat) (x y : Bk), a < s → k < a → bs[a]? = some x → bs[k]? = some y → common x y ≤ 1) (fun s => bs.length - s) 0 ?_ ?_ ?_
  · simp [upF, Fr.get, Up.refl]
  · exact ⟨by omega, List.prefix_refl _, by intro a k x y ha; omega⟩
  · rintro K s H' ⟨hs, hp, hf⟩ hK
    by_cases hlt : s < bs.length
    · have hbs : bs[s]? = some bs[s] := List.getElem?_eq_getElem hlt
      simp (maxSteps := 1000000) [go_sem, hlt]
      refine AWp.loopVc (fun t : Nat => [(0, lv 3 i o bs.length), (3, .int .i64 s), (4, .int .i64 t)])
        (fun t H2 => t ≤ s ∧ H <+: H2 ∧ ∀ (k : Nat) (y : Bk), k < t → bs[k]? = some y → common bs[s] y ≤ 1) (fun t => s - t) 0 ?_ ?_ ?_
      · simp [upF, Fr.get, Up.refl]
      · exact ⟨by omega, hp, by intro k y hk; omega⟩
      · rintro K2 t H2 ⟨ht, hp2, hft⟩ hK2
        by_cases htl : t < s
        · have hbt : bs[t]? = some (bs[t]'(by omega)) := List.getElem?_eq_getElem _
          have c1 := (h1.pre hp2).bk hbs
          have c2 := (h1.pre hp2).bk hbt
          simp only [Bk.cells] at c1 c2
          have hw : IntKind.i64.wrap ((t : Int) + 1) = (t : Int) + 1 := i64w (by omega) (by omega)
          have hlt2 : t < bs.length := by omega
          simp (maxSteps := 1000000) [go_sem, htl]
          refine AWp.draw mixed [(0, false), (1, false), (2, false), (3, false), (4, false), (5, false), (6, false), (7, false), (8, false), (9, false)] (by kernel_rfl) ?_
          simp (maxSteps := 1000000) [go_sem, hlt, hlt2, c1, c2]
          refine l01Common_ok (b := bs[s]) (d := bs[t]'(by omega)) _ ?_
          intro H3 hp3
          simp (maxSteps := 1000000) [go_sem, hw]
          refine condK_intro (fun hgt => ?_) (fun hle => ?_)
          · refine h H3 false (hp2.trans hp3) ⟨by simp, fun hF => ?_⟩
            have := hF s t _ _ htl hbs hbt
            simp at hgt; omega
          · refine hK2 (t + 1) _ _ (by omega) (by simp [upF, Fr.get, Up.refl]) ⟨by omega, hp2.trans hp3, fun k y hk hy => ?_⟩
            by_cases hkt : k = t
            · subst hkt
              rw [hbt] at hy; cases hy
              simp at hle; omega
            · exact hft k y (by omega) hy
        · have : t = s := by omega
          subst this
          have hw : IntKind.i64.wrap ((t : Int) + 1) = (t : Int) + 1 := i64w (by omega) (by omega)
          simp (maxSteps := 1000000) [go_sem, hw]
          refine hK (t + 1) _ _ (by omega) (by simp [upF, Fr.get, Up.refl]) ⟨by omega, hp2, fun a k x y ha hk hx hy => ?_⟩
          by_cases hat : a = t
          · subst hat
            rw [hbs] at hx; cases hx
            exact hft k y hk hy
          · exact hf a k x y (by omega) hk hx hy
    · have : s = bs.length := by omega
      subst this
      simp (maxSteps := 1000000) [go_sem]
      exact h H' true hp ⟨fun _ a k x y hk hx hy => hf a k x y (List.getElem?_eq_some_iff.1 hx).1 hk hx hy, fun _ => rfl⟩

theorem l01Is_ok {H : Heap} {u : Value} {p : Int} {bs : List Bk} (hu : BlocksAt H u bs) (hlen : bs.length ≤ 1048576) (Post : Value → Heap → Prop) (h : ∀ H' b, H <+: H' → (b = true ↔ IsSys p bs) → Post (.bool b) H') :
    ACalls Try.prog 91 [sysV p u] H Post := by
  obtain ⟨i, o, rfl, h1, h2⟩ := hu
  refine acalls_vc (rs := [.tmp 2]) Try.func91 rfl rfl Try.ntmps91 rfl rfl ?_
  simp (maxSteps := 1000000) [go_sem, sysV, Value.oneCell']
  refine l01In_ok _ ?_
  obtain ⟨H1, hH1⟩ : ∃ H1, H1 = H ++ [⟨[.int .i64 p, lv 3 i o bs.length], true, true⟩] := ⟨_, rfl⟩
  have hbox : H1[H.length]? = some ⟨[.int .i64 p, lv 3 i o bs.length], true, true⟩ := by rw [hH1]; simp
  have hp1 : H <+: H1 := by rw [hH1]; exact List.prefix_append _ _
  by_cases hin : 3 ≤ p ∧ p ≤ 15
  · by_cases hl35 : bs.length ≤ 35
    · have hgt : ¬ ((35 : Int) < bs.length) := by omega
      simp (maxSteps := 1000000) [go_sem, hin.1, hin.2, hgt]
      rw [← hH1]
      refine AWp.loopVc (fun s : Nat => [(1, .pointer (some ⟨H.length, 0, none⟩)), (3, .int .i64 s)])
        (fun s H' => s ≤ bs.length ∧ H1 <+: H' ∧ ∀ (a : Nat) (x : Bk), a < s → bs[a]? = some x → good p x = true ∧ ∀ y, 0 < a → bs[a - 1]? = some y → before y x = true) (fun s => bs.length - s) 0 ?_ ?_ ?_
      · simp [upF, Fr.get, Up.refl]
      · exact ⟨by omega, List.prefix_refl _, by intro a x ha; omega⟩
      · rintro K s H' ⟨hs, hp, hf⟩ hK
        have box : ∀ {H2 : Heap}, H1 <+: H2 → cellsAt H2 H.length 0 1 = some [.int .i64 p] ∧ cellsAt H2 H.length 1 1 = some [lv 3 i o bs.length] := by
          intro H2 hp2
          have := Same.get (S := fun _ => False) (Same.of_prefix hp2) hbox (fun h => h)
          exact ⟨Holds.cell ⟨true, this⟩ rfl, Holds.cell ⟨true, this⟩ rfl⟩
        obtain ⟨b0, b1⟩ := box hp
        by_cases hlt : s < bs.length
        · have hbs : bs[s]? = some bs[s] := List.getElem?_eq_getElem hlt
          have c1 := (h1.pre (hp1.trans hp)).bk hbs
          simp only [Bk.cells] at c1
          have hw : IntKind.i64.wrap ((s : Int) + 1) = (s : Int) + 1 := i64w (by omega) (by omega)
          simp (maxSteps := 1000000) [go_sem, hlt, b0, b1]
          refine AWp.draw mixed [(0, false), (1, false), (2, false), (3, false), (4, false), (5, false), (6, false), (7, false), (8, false), (9, false), (10, false), (11, false), (12, false), (13, false), (14, false), (15, false), (16, false), (17, false), (18, false), (19, false), (20, false), (21, false), (22, false), (23, false), (24, false), (25, false), (26, false), (27, false)] (by kernel_rfl) ?_
          simp (maxSteps := 1000000) [go_sem, hlt, b0, b1, c1]
          refine l01Good_ok (b := bs[s]) _ ?_
          intro H2 hp2
          by_cases hg : good p bs[s] = true
          · by_cases h0 : s = 0
            · subst h0
              simp (maxSteps := 1000000) [go_sem, hg, hw]
              refine hK 1 _ _ (by omega) (by simp [upF, Fr.get, Up.refl, i64w (n := 1)]) ⟨by omega, hp.trans hp2, fun a x ha hx => ?_⟩
              obtain rfl : a = 0 := by omega
              rw [hbs] at hx; cases hx
              exact ⟨hg, by omega⟩
            · have hs0 : 0 < s := by omega
              obtain ⟨r, rfl⟩ : ∃ r, s = r + 1 := ⟨s - 1, by omega⟩
              have hbr : bs[r]? = some (bs[r]'(by omega)) := List.getElem?_eq_getElem _
              obtain ⟨d0, d1⟩ := box (hp.trans hp2)
              have e1 := (h1.pre (hp1.trans (hp.trans hp2))).bk hbs
              have e2 := (h1.pre (hp1.trans (hp.trans hp2))).bk hbr
              simp only [Bk.cells] at e1 e2
              have hr : r < bs.length := by omega
              have hw3 : IntKind.i64.wrap (r : Int) = (r : Int) := i64w (by omega) (by omega)
              have hw4 : IntKind.i64.wrap ((r : Int) + 1 + 1) = (r : Int) + 1 + 1 := i64w (by omega) (by omega)
              simp (maxSteps := 1000000) [go_sem, hg, hw, d0, d1, e1, e2, hlt, hr, hw3]
              refine andK_intro (by omega) (l01Before_ok (b := bs[r]'(by omega)) (d := bs[r + 1]) _ ?_)
              intro H3 hp3
              by_cases hbf : before (bs[r]'(by omega)) bs[r + 1] = true
              · simp (maxSteps := 1000000) [go_sem, hbf, hw4]
                refine hK (r + 1 + 1) _ _ (by omega) (by simp [upF, Fr.get, Up.refl]) ⟨by omega, hp.trans (hp2.trans hp3), fun a x ha hx => ?_⟩
                by_cases har : a = r + 1
                · subst har
                  rw [hbs] at hx; cases hx
                  refine ⟨hg, fun y _ hy => ?_⟩
                  simp only [Nat.add_sub_cancel] at hy
                  rw [hbr] at hy; cases hy
                  exact hbf
                · exact hf a x (by omega) hx
              · simp (maxSteps := 1000000) [go_sem, hbf]
                refine h H3 false (hp1.trans (hp.trans (hp2.trans hp3))) ⟨by simp, fun hS => ?_⟩
                exact absurd ((hS.2.2.1 (r + 1) _ hbs).2 _ (by omega) (by simpa using hbr)) hbf
          · simp (maxSteps := 1000000) [go_sem, hg]
            refine h H2 false (hp1.trans (hp.trans hp2)) ⟨by simp, fun hS => ?_⟩
            exact absurd (hS.2.2.1 s _ hbs).1 hg
        · have : s = bs.length := by omega
          subst this
          simp (maxSteps := 1000000) [go_sem, b0, b1]
          refine l01Fits_ok ⟨i, o, rfl, h1.pre (hp1.trans hp), h2⟩ _ ?_
          intro H2 b hp2 hb
          simp (maxSteps := 1000000) [go_sem]
          refine h H2 b (hp1.trans (hp.trans hp2)) (hb.trans ⟨fun hF => ⟨hin, hl35, fun a x hx => hf a x (List.getElem?_eq_some_iff.1 hx).1 hx, hF⟩, fun hS => hS.2.2.2⟩)
    · have hgt : (35 : Int) < bs.length := by omega
      simp (maxSteps := 1000000) [go_sem, hin.1, hin.2, hgt]
      refine h _ false (List.prefix_append _ _) ⟨by simp, fun hS => absurd hS.2.1 hl35⟩
  · have hn : (decide (3 ≤ p) && decide (p ≤ 15)) = false := by simp; omega
    rw [hn]
    simp (maxSteps := 1000000) [go_sem]
    exact h _ false (List.prefix_append _ _) ⟨by simp, fun hS => absurd hS.1 hin⟩

theorem specIsSystem_ok {H : Heap} {u : Value} {p : Int} {bs : List Bk} (hu : BlocksAt H u bs) (hlen : bs.length ≤ 1048576) (Post : Value → Heap → Prop) (h : ∀ H' b, H <+: H' → (b = true ↔ IsSys p bs) → Post (.bool b) H') :
    ACalls Try.prog 31 [sysV p u] H Post := by
  obtain ⟨i, o, rfl, h1, h2⟩ := hu
  refine acalls_vc (rs := [.tmp 2]) Try.func31 rfl rfl Try.ntmps31 rfl rfl ?_
  simp (maxSteps := 1000000) [go_sem, sysV, Value.oneCell']
  refine l01Is_ok (p := p) ⟨i, o, rfl, h1.pre (List.prefix_append _ _), h2⟩ hlen _ ?_
  intro H' b hp hb
  simp (maxSteps := 1000000) [go_sem]
  exact h H' b ((List.prefix_append _ _).trans hp) hb

end Go.Proofs.Ytkgjdmbmdnmilaa
