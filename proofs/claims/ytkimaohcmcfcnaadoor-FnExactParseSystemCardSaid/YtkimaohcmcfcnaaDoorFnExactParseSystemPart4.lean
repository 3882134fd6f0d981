/- Part 4 of what the proof of the law FnExactParseSystem rests on: contracts of functions of the program, for every argument that each names; no statement of the seat is proved here. -/
import Derived.Test.YtkimaohcmcfcnaaDoorFnExactParseSystemPart3

set_option linter.all false
set_option maxRecDepth 20000
set_option maxHeartbeats 8000000
section
namespace Go.Proofs.YtkimaohcmcfcnaaDoor
open Go.Ab

theorem l01Good_ok {H : Heap} {v : Int} {b : Bk} (Post : Value -> Heap -> Prop) (h : ∀ H', H <+: H' -> Post (.bool (good v b)) H') :
    ACalls Tryd.prog 29 [.int .i64 v, b.val] H Post := by
  refine acalls_vc (rs := [.tmp 4]) Tryd.func29 rfl rfl Tryd.ntmps29 rfl rfl ?_
  obtain ⟨a, b, c⟩ := b
  have h := h _ (List.prefix_append H [⟨[.int .i64 a, .int .i64 b, .int .i64 c], true, true⟩])
  simp only [good] at h
  by_cases h1 : 0 <= a
  · by_cases h2 : a < b
    · by_cases h3 : b < c
      · simp (maxSteps := 1000000) [go_sem, Bk.val, Value.oneCell', h1, h2, h3] at h ⊢
        exact h
      · simp (maxSteps := 1000000) [go_sem, Bk.val, Value.oneCell', h1, h2, h3] at h ⊢
        exact h
    · simp (maxSteps := 1000000) [go_sem, Bk.val, Value.oneCell', h1, h2] at h ⊢
      exact h
  · simp (maxSteps := 1000000) [go_sem, Bk.val, Value.oneCell', h1] at h ⊢
    exact h

theorem l01Before_ok {H : Heap} {b d : Bk} (Post : Value -> Heap -> Prop) (h : ∀ H', H <+: H' -> Post (.bool (before b d)) H') :
    ACalls Tryd.prog 30 [b.val, d.val] H Post := by
  refine acalls_vc (rs := [.tmp 4]) Tryd.func30 rfl rfl Tryd.ntmps30 rfl rfl ?_
  obtain ⟨b1, b2, b3⟩ := b
  obtain ⟨d1, d2, d3⟩ := d
  simp (maxSteps := 1000000) [go_sem, Bk.val, Value.oneCell']
  have h := h _ (List.prefix_append H [⟨[.int .i64 b1, .int .i64 b2, .int .i64 b3], true, true⟩, ⟨[.int .i64 d1, .int .i64 d2, .int .i64 d3], true, true⟩])
  simp only [before] at h
  refine AWp.loopVc (fun s : Nat => [(2, .pointer (some ⟨H.length, 0, none⟩)), (3, .pointer (some ⟨H.length + 1, 0, none⟩)), (5, .int .i64 s)])
    (fun s H' => s <= 3 /\ H' = H ++ [⟨[.int .i64 b1, .int .i64 b2, .int .i64 b3], true, true⟩, ⟨[.int .i64 d1, .int .i64 d2, .int .i64 d3], true, true⟩] /\ [b1, b2, b3].take s = [d1, d2, d3].take s) (fun s => 3 - s) 0 ?_ ?_ ?_
  · simp [upF, Fr.get, Up.refl]
  · simp
  · rintro K s H' ⟨hs, rfl, ht⟩ hK
    have cn : List (Nat × Bool) := []
    have : s = 0 \/ s = 1 \/ s = 2 \/ s = 3 := by omega
    rcases this with rfl | rfl | rfl | rfl
    · simp (maxSteps := 1000000) [go_sem]
      refine AWp.draw mixed [(0, false), (1, false), (2, false), (3, false), (4, false), (5, false), (6, false)] (by kernel_rfl) ?_
      simp (maxSteps := 1000000) [go_sem, i64w (n := 1) (by omega) (by omega)]
      refine condK_intro (fun hne => ?_) (fun heq => ?_)
      · refine AWp.draw mixed [(0, false), (1, false), (2, false), (3, false), (4, false), (5, false), (6, false), (7, false)] (by kernel_rfl) ?_
        simp (maxSteps := 1000000) [go_sem]
        simp at hne; simpa [hne] using h
      · exact hK 1 _ _ (by omega) (by simp [upF, Fr.get, Up.refl]) ⟨by omega, rfl, by simpa using heq⟩
    · simp (maxSteps := 1000000) [go_sem]
      refine AWp.draw mixed [(0, false), (1, false), (2, false), (3, false), (4, false), (5, false), (6, false)] (by kernel_rfl) ?_
      simp (maxSteps := 1000000) [go_sem, i64w (n := 2) (by omega) (by omega)]
      refine condK_intro (fun hne => ?_) (fun heq => ?_)
      · refine AWp.draw mixed [(0, false), (1, false), (2, false), (3, false), (4, false), (5, false), (6, false), (7, false)] (by kernel_rfl) ?_
        simp (maxSteps := 1000000) [go_sem]
        simp at hne ht; simpa [hne, ht] using h
      · exact hK 2 _ _ (by omega) (by simp [upF, Fr.get, Up.refl]) ⟨by omega, rfl, by simp at ht heq; simp [ht, heq]⟩
    · simp (maxSteps := 1000000) [go_sem]
      refine AWp.draw mixed [(0, false), (1, false), (2, false), (3, false), (4, false), (5, false), (6, false)] (by kernel_rfl) ?_
      simp (maxSteps := 1000000) [go_sem, i64w (n := 3) (by omega) (by omega)]
      refine condK_intro (fun hne => ?_) (fun heq => ?_)
      · refine AWp.draw mixed [(0, false), (1, false), (2, false), (3, false), (4, false), (5, false), (6, false), (7, false)] (by kernel_rfl) ?_
        simp (maxSteps := 1000000) [go_sem]
        simp at hne ht; simpa [hne, ht] using h
      · exact hK 3 _ _ (by omega) (by simp [upF, Fr.get, Up.refl]) ⟨by omega, rfl, by simp at ht heq; simp [ht, heq]⟩
    · simp (maxSteps := 1000000) [go_sem]
      simp at ht
      simpa [ht] using h

theorem l01Common_ok {H : Heap} {b d : Bk} (Post : Value -> Heap -> Prop) (h : ∀ H', H <+: H' -> Post (.int .i64 (common b d)) H') :
    ACalls Tryd.prog 46 [b.val, d.val] H Post := by
  refine acalls_vc (rs := [.tmp 4]) Tryd.func46 rfl rfl Tryd.ntmps46 rfl rfl ?_
  obtain ⟨b1, b2, b3⟩ := b
  obtain ⟨d1, d2, d3⟩ := d
  simp (maxSteps := 1000000) [go_sem, Bk.val, Value.oneCell']
  obtain ⟨H1, hH1⟩ : ∃ H1, H1 = H ++ [⟨[.int .i64 b1, .int .i64 b2, .int .i64 b3], true, true⟩, ⟨[.int .i64 d1, .int .i64 d2, .int .i64 d3], true, true⟩] := ⟨_, rfl⟩
  have h := h H1 (by rw [hH1]; exact List.prefix_append _ _)
  have l1 : ∀ i : Nat, i < 3 -> cellsAt H1 H.length i 1 = some [.int .i64 (Bk.nth ⟨b1, b2, b3⟩ i)] := by
    intro i hi
    have : i = 0 \/ i = 1 \/ i = 2 := by omega
    rcases this with rfl | rfl | rfl <;> simp [hH1, go_sem, Bk.nth]
  have l2 : ∀ i : Nat, i < 3 -> cellsAt H1 (H.length + 1) i 1 = some [.int .i64 (Bk.nth ⟨d1, d2, d3⟩ i)] := by
    intro i hi
    have : i = 0 \/ i = 1 \/ i = 2 := by omega
    rcases this with rfl | rfl | rfl <;> simp [hH1, go_sem, Bk.nth]
  rw [<- hH1]
  refine AWp.loopVc (fun s : Nat => [(2, .pointer (some ⟨H.length, 0, none⟩)), (3, .pointer (some ⟨H.length + 1, 0, none⟩)), (5, .int .i64 (cnt ⟨b1, b2, b3⟩ ⟨d1, d2, d3⟩ s 0)), (6, .int .i64 s)])
    (fun s H' => s <= 3 /\ H' = H1) (fun s => 3 - s) 0 ?_ ?_ ?_
  · simp [upF, Fr.get, Up.refl, cnt]
  · simp
  · rintro K s H' ⟨hs, rfl⟩ hK
    by_cases hlt : s < 3
    · have hlt' : (s : Int) < 3 := by omega
      simp (maxSteps := 1000000) [go_sem, hlt, hlt']
      refine AWp.loopVc (fun t : Nat => [(2, .pointer (some ⟨H.length, 0, none⟩)), (3, .pointer (some ⟨H.length + 1, 0, none⟩)), (5, .int .i64 (cnt ⟨b1, b2, b3⟩ ⟨d1, d2, d3⟩ s t)), (6, .int .i64 s), (7, .int .i64 t)])
        (fun t H2 => t <= 3 /\ H2 = H') (fun t => 3 - t) 0 ?_ ?_ ?_
      · simp [upF, Fr.get, Up.refl]
      · simp
      · rintro K2 t H2 ⟨ht, rfl⟩ hK2
        by_cases htl : t < 3
        · have c1 := l1 s hlt
          have c2 := l2 t htl
          have hw : IntKind.i64.wrap ((t : Int) + 1) = (t : Int) + 1 := i64w (by omega) (by omega)
          have hle := cnt_le ⟨b1, b2, b3⟩ ⟨d1, d2, d3⟩ s t
          have hw2 : IntKind.i64.wrap ((cnt ⟨b1, b2, b3⟩ ⟨d1, d2, d3⟩ s t : Int) + 1) = (cnt ⟨b1, b2, b3⟩ ⟨d1, d2, d3⟩ s t : Int) + 1 := i64w (by omega) (by omega)
          have hst := cnt_succ ⟨b1, b2, b3⟩ ⟨d1, d2, d3⟩ s htl
          have htl' : (t : Int) < 3 := by omega
          simp (maxSteps := 1000000) [go_sem, htl, htl']
          refine AWp.draw mixed [(0, false), (1, false), (2, false), (3, false), (4, false), (5, false), (6, false)] (by kernel_rfl) ?_
          simp (maxSteps := 1000000) [go_sem, hlt, htl, hlt', htl', c1, c2, hw, hw2]
          refine condK_intro (fun heq => ?_) (fun hne => ?_)
          · refine hK2 (t + 1) _ _ (by omega) ?_ ⟨by omega, rfl⟩
            have : eq01 (Bk.nth ⟨b1, b2, b3⟩ s) (Bk.nth ⟨d1, d2, d3⟩ t) = 1 := by rw [eq01, if_pos (by simpa using heq)]
            simp [upF, Fr.get, Up.refl, hst, this]
          · refine hK2 (t + 1) _ _ (by omega) ?_ ⟨by omega, rfl⟩
            have : eq01 (Bk.nth ⟨b1, b2, b3⟩ s) (Bk.nth ⟨d1, d2, d3⟩ t) = 0 := by rw [eq01, if_neg (by simpa using hne)]
            simp [upF, Fr.get, Up.refl, hst, this]
        · have : t = 3 := by omega
          subst this
          have hw : IntKind.i64.wrap ((s : Int) + 1) = (s : Int) + 1 := i64w (by omega) (by omega)
          simp (maxSteps := 1000000) [go_sem, hw]
          refine hK (s + 1) _ _ (by omega) ?_ ⟨by omega, rfl⟩
          have := cnt_end ⟨b1, b2, b3⟩ ⟨d1, d2, d3⟩ hlt
          simp [upF, Fr.get, Up.refl, this]
    · have : s = 3 := by omega
      subst this
      simp (maxSteps := 1000000) [go_sem]
      rw [cnt_all]; exact h

theorem l01Fits_ok {H : Heap} {u : Value} {bs : List Bk} (hu : BlocksAt H u bs) (Post : Value -> Heap -> Prop) (h : ∀ H' b, H <+: H' -> (b = true ↔ Fits bs) -> Post (.bool b) H') :
    ACalls Tryd.prog 31 [u] H Post := by
  obtain ⟨i, o, rfl, h1, h2⟩ := hu
  refine acalls_vc (rs := [.tmp 2]) Tryd.func31 rfl rfl Tryd.ntmps31 rfl rfl ?_
  simp (maxSteps := 1000000) [go_sem]
  refine AWp.loopVc (fun s : Nat => [(0, lv 3 i o bs.length), (3, .int .i64 s)])
    (fun s H' => s <= bs.length /\ H <+: H' /\ ∀ (a k : Nat) (x y : Bk), a < s -> k < a -> bs[a]? = some x -> bs[k]? = some y -> common x y <= 1) (fun s => bs.length - s) 0 ?_ ?_ ?_
  · simp [upF, Fr.get, Up.refl]
  · exact ⟨by omega, List.prefix_refl _, by intro a k x y ha; omega⟩
  · rintro K s H' ⟨hs, hp, hf⟩ hK
    by_cases hlt : s < bs.length
    · have hbs : bs[s]? = some bs[s] := List.getElem?_eq_getElem hlt
      simp (maxSteps := 1000000) [go_sem, hlt]
      refine AWp.loopVc (fun t : Nat => [(0, lv 3 i o bs.length), (3, .int .i64 s), (4, .int .i64 t)])
        (fun t H2 => t <= s /\ H <+: H2 /\ ∀ (k : Nat) (y : Bk), k < t -> bs[k]? = some y -> common bs[s] y <= 1) (fun t => s - t) 0 ?_ ?_ ?_
      · simp [upF, Fr.get, Up.refl]
      · exact ⟨by omega, hp, by intro k y hk; omega⟩
      · rintro K2 t H2 ⟨ht, hp2, hft⟩ hK2
        by_cases htl : t < s
        · have hbt : bs[t]? = some (bs[t]'(by omega)) := List.getElem?_eq_getElem _
          have c1 := (h1.pre hp2).bk hbs
          have c2 := (h1.pre hp2).bk hbt
          simp only [Bk.cells] at c1 c2
          have hw : IntKind.i64.wrap ((t : Int) + 1) = (t : Int) + 1 := i64w (by omega) (by omega)
          have hlt2 : t < bs.length := by omega
          simp (maxSteps := 1000000) [go_sem, htl]
          refine AWp.draw mixed [(0, false), (1, false), (2, false), (3, false), (4, false), (5, false), (6, false), (7, false), (8, false), (9, false)] (by kernel_rfl) ?_
          simp (maxSteps := 1000000) [go_sem, hlt, hlt2, c1, c2]
          refine l01Common_ok (b := bs[s]) (d := bs[t]'(by omega)) _ ?_
          intro H3 hp3
          simp (maxSteps := 1000000) [go_sem, hw]
          refine condK_intro (fun hgt => ?_) (fun hle => ?_)
          · refine h H3 false (hp2.trans hp3) ⟨by simp, fun hF => ?_⟩
            have := hF s t _ _ htl hbs hbt
            simp at hgt; omega
          · refine hK2 (t + 1) _ _ (by omega) (by simp [upF, Fr.get, Up.refl]) ⟨by omega, hp2.trans hp3, fun k y hk hy => ?_⟩
            by_cases hkt : k = t
            · subst hkt
              rw [hbt] at hy; cases hy
              simp at hle; omega
            · exact hft k y (by omega) hy
        · have : t = s := by omega
          subst this
          have hw : IntKind.i64.wrap ((t : Int) + 1) = (t : Int) + 1 := i64w (by omega) (by omega)
          simp (maxSteps := 1000000) [go_sem, hw]
          refine hK (t + 1) _ _ (by omega) (by simp [upF, Fr.get, Up.refl]) ⟨by omega, hp2, fun a k x y ha hk hx hy => ?_⟩
          by_cases hat : a = t
          · subst hat
            rw [hbs] at hx; cases hx
            exact hft k y hk hy
          · exact hf a k x y (by omega) hk hx hy
    · have : s = bs.length := by omega
      subst this
      simp (maxSteps := 1000000) [go_sem]
      exact h H' true hp ⟨fun _ a k x y hk hx hy => hf a k x y (List.getElem?_eq_some_iff.1 hx).1 hk hx hy, fun _ => rfl⟩

theorem l01Is_ok {H : Heap} {u : Value} {p : Int} {bs : List Bk} (hu : BlocksAt H u bs) (hlen : bs.length <= 1048576) (Post : Value -> Heap -> Prop) (h : ∀ H' b, H <+: H' -> (b = true ↔ IsSys p bs) -> Post (.bool b) H') :
    ACalls Tryd.prog 15 [sysV p u] H Post := by
  obtain ⟨i, o, rfl, h1, h2⟩ := hu
  refine acalls_vc (rs := [.tmp 2]) Tryd.func15 rfl rfl Tryd.ntmps15 rfl rfl ?_
  simp (maxSteps := 1000000) [go_sem, sysV, Value.oneCell']
  refine l01In_ok _ ?_
  obtain ⟨H1, hH1⟩ : ∃ H1, H1 = H ++ [⟨[.int .i64 p, lv 3 i o bs.length], true, true⟩] := ⟨_, rfl⟩
  have hbox : H1[H.length]? = some ⟨[.int .i64 p, lv 3 i o bs.length], true, true⟩ := by rw [hH1]; simp
  have hp1 : H <+: H1 := by rw [hH1]; exact List.prefix_append _ _
  by_cases hin : 3 <= p /\ p <= 15
  · by_cases hl35 : bs.length <= 35
    · have hgt : ¬ ((35 : Int) < bs.length) := by omega
      simp (maxSteps := 1000000) [go_sem, hin.1, hin.2, hgt]
      rw [<- hH1]
      refine AWp.loopVc (fun s : Nat => [(1, .pointer (some ⟨H.length, 0, none⟩)), (3, .int .i64 s)])
        (fun s H' => s <= bs.length /\ H1 <+: H' /\ ∀ (a : Nat) (x : Bk), a < s -> bs[a]? = some x -> good p x = true /\ ∀ y, 0 < a -> bs[a - 1]? = some y -> before y x = true) (fun s => bs.length - s) 0 ?_ ?_ ?_
      · simp [upF, Fr.get, Up.refl]
      · exact ⟨by omega, List.prefix_refl _, by intro a x ha; omega⟩
      · rintro K s H' ⟨hs, hp, hf⟩ hK
        have box : ∀ {H2 : Heap}, H1 <+: H2 -> cellsAt H2 H.length 0 1 = some [.int .i64 p] /\ cellsAt H2 H.length 1 1 = some [lv 3 i o bs.length] := by
          intro H2 hp2
          have := pget hp2 hbox
          exact ⟨Holds.cell ⟨true, this⟩ rfl, Holds.cell ⟨true, this⟩ rfl⟩
        obtain ⟨b0, b1⟩ := box hp
        by_cases hlt : s < bs.length
        · have hbs : bs[s]? = some bs[s] := List.getElem?_eq_getElem hlt
          have c1 := (h1.pre (hp1.trans hp)).bk hbs
          simp only [Bk.cells] at c1
          have hw : IntKind.i64.wrap ((s : Int) + 1) = (s : Int) + 1 := i64w (by omega) (by omega)
          simp (maxSteps := 1000000) [go_sem, hlt, b0, b1]
          refine AWp.draw mixed [(0, false), (1, false), (2, false), (3, false), (4, false), (5, false), (6, false), (7, false), (8, false), (9, false), (10, false), (11, false), (12, false), (13, false), (14, false), (15, false), (16, false), (17, false), (18, false), (19, false), (20, false), (21, false), (22, false), (23, false), (24, false), (25, false), (26, false), (27, false)] (by kernel_rfl) ?_
          simp (maxSteps := 1000000) [go_sem, hlt, b0, b1, c1]
          refine l01Good_ok (b := bs[s]) _ ?_
          intro H2 hp2
          by_cases hg : good p bs[s] = true
          · by_cases h0 : s = 0
            · subst h0
              simp (maxSteps := 1000000) [go_sem, hg, hw]
              refine hK 1 _ _ (by omega) (by simp [upF, Fr.get, Up.refl, i64w (n := 1)]) ⟨by omega, hp.trans hp2, fun a x ha hx => ?_⟩
              obtain rfl : a = 0 := by omega
              rw [hbs] at hx; cases hx
              exact ⟨hg, by omega⟩
            · have hs0 : 0 < s := by omega
              obtain ⟨r, rfl⟩ : ∃ r, s = r + 1 := ⟨s - 1, by omega⟩
              have hbr : bs[r]? = some (bs[r]'(by omega)) := List.getElem?_eq_getElem _
              obtain ⟨d0, d1⟩ := box (hp.trans hp2)
              have e1 := (h1.pre (hp1.trans (hp.trans hp2))).bk hbs
              have e2 := (h1.pre (hp1.trans (hp.trans hp2))).bk hbr
              simp only [Bk.cells] at e1 e2
              have hr : r < bs.length := by omega
              have hw3 : IntKind.i64.wrap (r : Int) = (r : Int) := i64w (by omega) (by omega)
              have hw4 : IntKind.i64.wrap ((r : Int) + 1 + 1) = (r : Int) + 1 + 1 := i64w (by omega) (by omega)
              simp (maxSteps := 1000000) [go_sem, hg, hw, d0, d1, e1, e2, hlt, hr, hw3]
              refine andK_intro (by omega) (l01Before_ok (b := bs[r]'(by omega)) (d := bs[r + 1]) _ ?_)
              intro H3 hp3
              by_cases hbf : before (bs[r]'(by omega)) bs[r + 1] = true
              · simp (maxSteps := 1000000) [go_sem, hbf, hw4]
                refine hK (r + 1 + 1) _ _ (by omega) (by simp [upF, Fr.get, Up.refl]) ⟨by omega, hp.trans (hp2.trans hp3), fun a x ha hx => ?_⟩
                by_cases har : a = r + 1
                · subst har
                  rw [hbs] at hx; cases hx
                  refine ⟨hg, fun y _ hy => ?_⟩
                  simp only [Nat.add_sub_cancel] at hy
                  rw [hbr] at hy; cases hy
                  exact hbf
                · exact hf a x (by omega) hx
              · simp (maxSteps := 1000000) [go_sem, hbf]
                refine h H3 false (hp1.trans (hp.trans (hp2.trans hp3))) ⟨by simp, fun hS => ?_⟩
                exact absurd ((hS.2.2.1 (r + 1) _ hbs).2 _ (by omega) (by simpa using hbr)) hbf
          · simp (maxSteps := 1000000) [go_sem, hg]
            refine h H2 false (hp1.trans (hp.trans hp2)) ⟨by simp, fun hS => ?_⟩
            exact absurd (hS.2.2.1 s _ hbs).1 hg
        · have : s = bs.length := by omega
          subst this
          simp (maxSteps := 1000000) [go_sem, b0, b1]
          refine l01Fits_ok ⟨i, o, rfl, h1.pre (hp1.trans hp), h2⟩ _ ?_
          intro H2 b hp2 hb
          simp (maxSteps := 1000000) [go_sem]
          refine h H2 b (hp1.trans (hp.trans hp2)) (hb.trans ⟨fun hF => ⟨hin, hl35, fun a x hx => hf a x (List.getElem?_eq_some_iff.1 hx).1 hx, hF⟩, fun hS => hS.2.2.2⟩)
    · have hgt : (35 : Int) < bs.length := by omega
      simp (maxSteps := 1000000) [go_sem, hin.1, hin.2, hgt]
      refine h _ false (List.prefix_append _ _) ⟨by simp, fun hS => absurd hS.2.1 hl35⟩
  · have hn : (decide (3 <= p) && decide (p <= 15)) = false := by simp; omega
    rw [hn]
    simp (maxSteps := 1000000) [go_sem]
    exact h _ false (List.prefix_append _ _) ⟨by simp, fun hS => absurd hS.1 hin⟩

end Go.Proofs.YtkimaohcmcfcnaaDoor
end

section
namespace Go.Proofs.YtkimaohcmcfcnaaDoor
open Go.Ab

theorem rises_ok {H : Heap} {u : Value} {xs : List Int} {n : Int} (hu : IntsAt H u xs) (hn : -9223372036854775807 <= n) (hn' : n <= 9223372036854775807) (Post : Value -> Heap -> Prop) (h : ∀ b : Bool, (b = true ↔ Rises n xs) -> Post (.bool b) H) :
    ACalls Tryd.prog 62 [u, .int .i64 n] H Post := by
  obtain ⟨i, o, rfl, h1, h2⟩ := hu
  refine acalls_vc (rs := [.tmp 4]) Tryd.func62 rfl rfl Tryd.ntmps62 rfl rfl ?_
  simp (maxSteps := 1000000) [go_sem]
  refine AWp.loopVc (fun s : Nat => [(0, lv 1 i o xs.length), (1, .int .i64 n), (7, lv 1 i o xs.length), (8, .int .i64 xs.length), (9, .int .i64 s)])
    (fun s H' => s <= xs.length /\ H' = H /\ ∀ (a : Nat) (x : Int), a < s -> xs[a]? = some x -> (0 <= x /\ x < n) /\ ∀ y, 0 < a -> xs[a - 1]? = some y -> y < x) (fun s => xs.length - s) 0 ?_ ?_ ?_
  · simp [upF, Fr.get, Up.refl]
  · exact ⟨by omega, rfl, by intro a x ha; omega⟩
  · rintro K s H' ⟨hs, rfl, hf⟩ hK
    by_cases hlt : s < xs.length
    · have hx : xs[s]? = some xs[s] := List.getElem?_eq_getElem hlt
      have c1 := h1.cell (k := s) (v := .int .i64 xs[s]) (by simp [ints_get, hlt])
      have hw : IntKind.i64.wrap ((s : Int) + 1) = (s : Int) + 1 := i64w (by omega) (by omega)
      have hwn : IntKind.i64.wrap (n - 1) = n - 1 := i64w (by omega) (by omega)
      simp (maxSteps := 1000000) [go_sem, hlt, c1, hwn]
      refine within_ok _ ?_
      by_cases hin : 0 <= xs[s] /\ xs[s] <= n - 1
      · by_cases h0 : s = 0
        · subst h0
          simp (maxSteps := 1000000) [go_sem, hin.1, hin.2, i64w (n := 1)]
          refine hK 1 _ _ (by omega) (by simp [upF, Fr.get, Up.refl]) ⟨by omega, rfl, fun a x ha hx' => ?_⟩
          obtain rfl : a = 0 := by omega
          rw [hx] at hx'; cases hx'
          exact ⟨by omega, by omega⟩
        · obtain ⟨r, rfl⟩ : ∃ r, s = r + 1 := ⟨s - 1, by omega⟩
          have hxr : xs[r]? = some (xs[r]'(by omega)) := List.getElem?_eq_getElem _
          have c2 := h1.cell (k := r) (v := .int .i64 (xs[r]'(by omega))) (by simp [ints_get, hxr])
          have hr : r < xs.length := by omega
          have hw3 : IntKind.i64.wrap (r : Int) = (r : Int) := i64w (by omega) (by omega)
          have hw4 : IntKind.i64.wrap ((r : Int) + 1 + 1) = (r : Int) + 1 + 1 := i64w (by omega) (by omega)
          simp (maxSteps := 1000000) [go_sem, hin.1, hin.2, hw3, hr, c2, hw4]
          refine condK_intro (fun hge => ?_) (fun hlt' => ?_)
          · refine h false ⟨by simp, fun hR => ?_⟩
            have := (hR (r + 1) _ hx).2 _ (by omega) hxr
            simp at hge; omega
          · refine hK (r + 1 + 1) _ _ (by omega) (by simp [upF, Fr.get, Up.refl]) ⟨by omega, rfl, fun a x ha hx' => ?_⟩
            by_cases har : a = r + 1
            · subst har
              rw [hx] at hx'; cases hx'
              refine ⟨by omega, fun y _ hy => ?_⟩
              simp only [Nat.add_sub_cancel] at hy
              rw [hxr] at hy; cases hy
              simpa using hlt'
            · exact hf a x (by omega) hx'
      · have hnin : (decide (0 <= xs[s]) && decide (xs[s] <= n - 1)) = false := by simp; omega
        rw [hnin]
        simp (maxSteps := 1000000) [go_sem]
        refine h false ⟨by simp, fun hR => ?_⟩
        have := (hR s _ hx).1
        omega
    · have : s = xs.length := by omega
      subst this
      simp (maxSteps := 1000000) [go_sem]
      exact h true ⟨fun _ a x hx => hf a x (List.getElem?_eq_some_iff.1 hx).1 hx, fun _ => rfl⟩

theorem isBlock_ok {H : Heap} {b : Bk} {v : Int} (hn : -9223372036854775807 <= v) (hn' : v <= 9223372036854775807) (Post : Value -> Heap -> Prop) (h : ∀ H', H <+: H' -> Post (.bool (good v b)) H') :
    ACalls Tryd.prog 45 [b.val, .int .i64 v] H Post := by
  refine acalls_vc (rs := [.tmp 4]) Tryd.func45 rfl rfl Tryd.ntmps45 rfl rfl ?_
  simp (maxSteps := 1000000) [go_sem, Bk.val, Value.oneCell']
  have hat : At (H ++ [⟨[.int .i64 b.a, .int .i64 b.b, .int .i64 b.c], true, true⟩]) H.length 0 (ints [b.a, b.b, b.c]) := Holds.at ⟨true, by simp [ints]⟩
  refine ACalls.up (args' := [lv 1 H.length 0 3, .int .i64 v]) ⟨Up.ex (by omega) (.inr (by simp [go_sem])), Up.refl _ _, trivial⟩ ?_
  refine rises_ok (xs := [b.a, b.b, b.c]) ⟨H.length, 0, rfl, hat, by simp⟩ hn hn' _ ?_
  intro r hr
  simp (maxSteps := 1000000) [go_sem]
  have : r = good v b := by
    rw [rises_block] at hr
    cases r <;> cases hg : good v b <;> simp_all
  rw [this]
  exact h _ (List.prefix_append _ _)

theorem isNaN_ok {H : Heap} {x : Int} (Post : Value -> Heap -> Prop) (h : Post (.bool false) H) :
    ACalls Tryd.prog 98 [.int .i64 x] H Post := by
  refine acalls_vc (rs := [.tmp 2]) Tryd.func98 rfl rfl Tryd.ntmps98 rfl rfl ?_
  simp (maxSteps := 1000000) [go_sem]
  exact h

theorem cmpCompare_ok {H : Heap} {x y : Int} (Post : Value -> Heap -> Prop) (h : Post (.int .i64 (if x < y then -1 else if y < x then 1 else 0)) H) :
    ACalls Tryd.prog 86 [.int .i64 x, .int .i64 y] H Post := by
  refine acalls_vc (rs := [.tmp 4]) Tryd.func86 rfl rfl Tryd.ntmps86 rfl rfl ?_
  simp (maxSteps := 1000000) [go_sem]
  refine isNaN_ok _ ?_
  simp (maxSteps := 1000000) [go_sem]
  refine isNaN_ok _ ?_
  simp (maxSteps := 1000000) [go_sem]
  refine condK_intro (fun h1 => ?_) (fun h1 => ?_)
  · rw [if_pos (by simpa using h1)] at h; exact h
  · rw [if_neg (by simpa using h1)] at h
    refine condK_intro (fun h2 => ?_) (fun h2 => ?_)
    · rw [if_pos (by simpa using h2)] at h; exact h
    · rw [if_neg (by simpa using h2)] at h; exact h

theorem slicesCompare_ok {H : Heap} {u v : Value} {xs ys : List Int} (hu : IntsAt H u xs) (hv : IntsAt H v ys) (Post : Value -> Heap -> Prop) (h : Post (.int .i64 (lexC xs ys)) H) :
    ACalls Tryd.prog 63 [u, v] H Post := by
  obtain ⟨i, o, rfl, h1, h2⟩ := hu
  obtain ⟨j, q, rfl, h3, h4⟩ := hv
  refine acalls_vc (rs := [.tmp 4]) Tryd.func63 rfl rfl Tryd.ntmps63 rfl rfl ?_
  simp (maxSteps := 1000000) [go_sem]
  refine AWp.loopVc (fun s : Nat => [(0, lv 1 i o xs.length), (1, lv 1 j q ys.length), (9, lv 1 i o xs.length), (10, .int .i64 xs.length), (11, .int .i64 s)])
    (fun s H' => s <= xs.length /\ s <= ys.length /\ H' = H /\ lexC xs ys = lexC (xs.drop s) (ys.drop s)) (fun s => xs.length - s) 0 ?_ ?_ ?_
  · simp [upF, Fr.get, Up.refl]
  · exact ⟨by omega, by omega, rfl, by simp⟩
  · rintro K s H' ⟨hs, hs', rfl, hf⟩ hK
    by_cases hlt : s < xs.length
    · have hdx : xs.drop s = xs[s] :: xs.drop (s + 1) := List.drop_eq_getElem_cons hlt
      have c1 := h1.cell (k := s) (v := .int .i64 xs[s]) (by simp [ints_get, hlt])
      have hw : IntKind.i64.wrap ((s : Int) + 1) = (s : Int) + 1 := i64w (by omega) (by omega)
      by_cases hly : s < ys.length
      · have hdy : ys.drop s = ys[s] :: ys.drop (s + 1) := List.drop_eq_getElem_cons hly
        have c2 := h3.cell (k := s) (v := .int .i64 ys[s]) (by simp [ints_get, hly])
        have hly' : ¬ ys.length <= s := by omega
        simp (maxSteps := 1000000) [go_sem, hlt, hly, hly', c1, c2]
        refine cmpCompare_ok _ ?_
        rw [hdx, hdy] at hf
        simp only [lexC] at hf
        by_cases hxy : xs[s] < ys[s]
        · rw [if_pos hxy] at hf ⊢
          simp (maxSteps := 1000000) [go_sem]
          rw [hf] at h; exact h
        · rw [if_neg hxy] at hf ⊢
          by_cases hyx : ys[s] < xs[s]
          · rw [if_pos hyx] at hf ⊢
            simp (maxSteps := 1000000) [go_sem]
            rw [hf] at h; exact h
          · rw [if_neg hyx] at hf ⊢
            simp (maxSteps := 1000000) [go_sem, hw]
            exact hK (s + 1) _ _ (by omega) (by simp [upF, Fr.get, Up.refl]) ⟨by omega, by omega, rfl, hf⟩
      · have hly' : ys.length <= s := by omega
        simp (maxSteps := 1000000) [go_sem, hlt, hly', c1]
        rw [hdx, List.drop_eq_nil_of_le hly'] at hf
        simp only [lexC] at hf
        rw [hf] at h; exact h
    · have : s = xs.length := by omega
      subst this
      simp (maxSteps := 1000000) [go_sem]
      rw [List.drop_eq_nil_of_le (Nat.le_refl _)] at hf
      refine condK_intro (fun hl => ?_) (fun hl => ?_)
      · have hl : xs.length < ys.length := by simpa using hl
        rw [List.drop_eq_getElem_cons hl] at hf
        simp only [lexC] at hf
        rw [hf] at h; exact h
      · have hl : ys.length <= xs.length := by simpa using hl
        rw [List.drop_eq_nil_of_le hl] at hf
        simp only [lexC] at hf
        rw [hf] at h; exact h

theorem compare_ok {H : Heap} {b d : Bk} (Post : Value -> Heap -> Prop) (h : ∀ H', H <+: H' -> Post (.int .i64 (lexC [b.a, b.b, b.c] [d.a, d.b, d.c])) H') :
    ACalls Tryd.prog 48 [b.val, d.val] H Post := by
  refine acalls_vc (rs := [.tmp 4]) Tryd.func48 rfl rfl Tryd.ntmps48 rfl rfl ?_
  simp (maxSteps := 1000000) [go_sem, Bk.val, Value.oneCell']
  refine AWp.draw mixed [(0, false), (1, false), (2, false), (3, false)] (by kernel_rfl) ?_
  simp (maxSteps := 1000000) [go_sem]
  have ha : Holds (H ++ [⟨[.int .i64 b.a, .int .i64 b.b, .int .i64 b.c], true, true⟩, ⟨[.int .i64 d.a, .int .i64 d.b, .int .i64 d.c], true, true⟩]) H.length (ints [b.a, b.b, b.c]) := ⟨true, by simp [ints]⟩
  have hd : Holds (H ++ [⟨[.int .i64 b.a, .int .i64 b.b, .int .i64 b.c], true, true⟩, ⟨[.int .i64 d.a, .int .i64 d.b, .int .i64 d.c], true, true⟩]) (H.length + 1) (ints [d.a, d.b, d.c]) := ⟨true, by simp [ints]⟩
  refine ACalls.up (args' := [lv 1 H.length 0 3, lv 1 (H.length + 1) 0 3]) ⟨Up.ex (by omega) (.inr (by simp [go_sem])), Up.ex (by omega) (.inr (by simp [go_sem])), trivial⟩ ?_
  refine slicesCompare_ok (xs := [b.a, b.b, b.c]) (ys := [d.a, d.b, d.c]) ⟨H.length, 0, rfl, ha.at, by simp⟩ ⟨H.length + 1, 0, rfl, hd.at, by simp⟩ _ ?_
  simp (maxSteps := 1000000) [go_sem]
  exact h _ (List.prefix_append _ _)

end Go.Proofs.YtkimaohcmcfcnaaDoor
end

section
namespace Go.Ab

def Bk.has (b : Bk) (p : Int) : Bool := decide (b.a = p) || (decide (b.b = p) || decide (b.c = p))
theorem Bk.has_iff {b : Bk} {p : Int} : b.has p = true ↔ (b.a = p \/ b.b = p \/ b.c = p) := by simp [Bk.has]

def third (bs : List Bk) (p q : Int) : Int :=
  match bs.find? (fun c => c.has p && c.has q) with
  | some c => c.a + c.b + c.c - p - q
  | none => -1

theorem good_iff {v : Int} {b : Bk} : good v b = true ↔ 0 <= b.a /\ b.a < b.b /\ b.b < b.c /\ b.c < v := by
  simp only [good, Bool.and_eq_true, decide_eq_true_eq, and_assoc]

theorem third_value {v : Int} {c : Bk} {p q : Int} (hc : good v c = true) (hpq : p ≠ q) (hp : c.has p = true) (hq : c.has q = true) :
    0 <= c.a + c.b + c.c - p - q /\ c.a + c.b + c.c - p - q < v /\ c.has (c.a + c.b + c.c - p - q) = true /\ c.a + c.b + c.c - p - q ≠ p /\ c.a + c.b + c.c - p - q ≠ q := by
  rw [good_iff] at hc
  rw [Bk.has_iff] at hp hq ⊢
  obtain ⟨h1, h2, h3, h4⟩ := hc
  refine ⟨?_, ?_, ?_, ?_, ?_⟩ <;> rcases hp with hp | hp | hp <;> rcases hq with hq | hq | hq <;> omega

theorem third_neg {v : Int} {bs : List Bk} (hg : ∀ x ∈ bs, good v x = true) {p q : Int} (hpq : p ≠ q) : third bs p q = -1 ↔ ∀ x ∈ bs, ¬ (x.has p = true /\ x.has q = true) := by
  unfold third
  cases hf : bs.find? (fun c => c.has p && c.has q) with
  | none =>
    simp only [true_iff]
    intro x hx h
    have := List.find?_eq_none.1 hf x hx
    simp [h.1, h.2] at this
  | some c =>
    have h1 := List.find?_some hf
    have h2 := List.mem_of_find?_eq_some hf
    simp only [Bool.and_eq_true] at h1
    have := third_value (hg c h2) hpq h1.1 h1.2
    constructor
    · intro h
      have h : c.a + c.b + c.c - p - q = -1 := h
      omega
    · intro h; exact absurd h1 (h c h2)

theorem third_comm (bs : List Bk) (p q : Int) : third bs p q = third bs q p := by
  unfold third
  rw [show (fun c : Bk => c.has p && c.has q) = (fun c => c.has q && c.has p) from funext fun c => Bool.and_comm _ _]
  split <;> omega

theorem third_snoc {bs : List Bk} {b : Bk} {p q : Int} : third (bs ++ [b]) p q = match bs.find? (fun c => c.has p && c.has q) with
    | some c => c.a + c.b + c.c - p - q
    | none => if b.has p && b.has q then b.a + b.b + b.c - p - q else -1 := by
  unfold third
  rw [List.find?_append]
  cases bs.find? (fun c => c.has p && c.has q) with
  | some c => rfl
  | none =>
    simp only [Option.none_or, List.find?_cons]
    cases b.has p && b.has q <;> rfl

theorem third_snoc_in {v : Int} {bs : List Bk} {b : Bk} (hg : ∀ x ∈ bs, good v x = true) {p q : Int} (hpq : p ≠ q) (hp : b.has p = true) (hq : b.has q = true) (hn : third bs p q = -1) : third (bs ++ [b]) p q = b.a + b.b + b.c - p - q := by
  have h := (third_neg hg hpq).1 hn
  rw [third_snoc]
  cases hf : bs.find? (fun c => c.has p && c.has q) with
  | none => simp [hp, hq]
  | some c =>
    have h1 := List.find?_some hf
    simp only [Bool.and_eq_true] at h1
    exact absurd h1 (h c (List.mem_of_find?_eq_some hf))

theorem third_snoc_out {bs : List Bk} {b : Bk} {p q : Int} (h : ¬ (b.has p = true /\ b.has q = true)) : third (bs ++ [b]) p q = third bs p q := by
  rw [third_snoc]
  unfold third
  have : (b.has p && b.has q) = false := by
    cases hp : b.has p <;> cases hq : b.has q <;> simp_all
  cases bs.find? (fun c => c.has p && c.has q) with
  | none => simp [this]
  | some c => rfl

def hasN (x : Bk) (p : Int) : Nat := eq01 x.a p + eq01 x.b p + eq01 x.c p
theorem hasN_eq {v : Int} {x : Bk} (hx : good v x = true) (p : Int) : hasN x p = if x.has p then 1 else 0 := by
  rw [good_iff] at hx
  simp only [hasN, eq01, Bk.has_iff]
  split <;> split <;> split <;> split <;> omega
theorem common_eq (x y : Bk) : common x y = hasN x y.a + hasN x y.b + hasN x y.c := by
  simp only [common, hasN]; omega
theorem common_le_one {v w : Int} {x y : Bk} (hx : good v x = true) :
    common x y <= 1 ↔ ¬ (x.has y.a = true /\ x.has y.b = true) /\ ¬ (x.has y.a = true /\ x.has y.c = true) /\ ¬ (x.has y.b = true /\ x.has y.c = true) := by
  rw [common_eq, hasN_eq hx, hasN_eq hx, hasN_eq hx]
  cases x.has y.a <;> cases x.has y.b <;> cases x.has y.c <;> simp

theorem common_comm (x y : Bk) : common x y = common y x := by
  have : ∀ a b : Int, eq01 a b = eq01 b a := by intro a b; simp only [eq01]; split <;> split <;> omega
  simp only [common, this y.a, this y.b, this y.c]
  omega

def leftB (bs : List Bk) (b : Bk) : Bool := decide (third bs b.a b.b = -1) && (decide (third bs b.a b.c = -1) && decide (third bs b.b b.c = -1))
theorem leftB_iff {v w : Int} {bs : List Bk} (hg : ∀ x ∈ bs, good v x = true) {b : Bk} (hb : good w b = true) : leftB bs b = true ↔ ∀ x ∈ bs, common x b <= 1 := by
  have hb' := good_iff.1 hb
  simp only [leftB, Bool.and_eq_true, decide_eq_true_eq]
  rw [third_neg hg (by omega), third_neg hg (by omega), third_neg hg (by omega)]
  constructor
  · intro h x hx
    exact (common_le_one (w := w) (hg x hx)).2 ⟨h.1 x hx, h.2.1 x hx, h.2.2 x hx⟩
  · intro h
    refine ⟨fun x hx => ?_, fun x hx => ?_, fun x hx => ?_⟩
    · exact ((common_le_one (w := w) (hg x hx)).1 (h x hx)).1
    · exact ((common_le_one (w := w) (hg x hx)).1 (h x hx)).2.1
    · exact ((common_le_one (w := w) (hg x hx)).1 (h x hx)).2.2

theorem fits_snoc {bs : List Bk} {b : Bk} : Fits (bs ++ [b]) ↔ Fits bs /\ ∀ x ∈ bs, common x b <= 1 := by
  constructor
  · intro h
    refine ⟨fun i k x y hk hx hy => ?_, fun x hx => ?_⟩
    · have h1 := (List.getElem?_eq_some_iff.1 hx).1
      exact h i k x y hk (by rw [List.getElem?_append_left h1]; exact hx) (by rw [List.getElem?_append_left (by omega)]; exact hy)
    · obtain ⟨k, hk⟩ := List.mem_iff_getElem?.1 hx
      have h1 := (List.getElem?_eq_some_iff.1 hk).1
      have := h bs.length k b x h1 (by simp) (by rw [List.getElem?_append_left h1]; exact hk)
      rw [common_comm]; exact this
  · rintro ⟨h, hb⟩ i k x y hk hx hy
    have hi := (List.getElem?_eq_some_iff.1 hx).1
    simp only [List.length_append, List.length_singleton] at hi
    rw [List.getElem?_append_left (by omega)] at hy
    by_cases e : i < bs.length
    · rw [List.getElem?_append_left e] at hx
      exact h i k x y hk hx hy
    · have : i = bs.length := by omega
      subst this
      simp at hx; subst hx
      rw [common_comm]; exact hb y (List.mem_of_getElem? hy)

theorem fits_take {bs : List Bk} (h : Fits bs) (n : Nat) : Fits (bs.take n) := by
  intro i k x y hk hx hy
  rw [List.getElem?_take] at hx hy
  split at hx
  · split at hy
    · exact h i k x y hk hx hy
    · cases hy
  · cases hx

def gAt (gs : List Int) (p q : Nat) : Int := gs.getD (p * 15 + q) 0
def gSet (gs : List Int) (p q : Nat) (n : Int) : List Int := (gs.set (p * 15 + q) n).set (q * 15 + p) n

theorem gSet_length (gs : List Int) (p q : Nat) (n : Int) : (gSet gs p q n).length = gs.length := by simp [gSet]
theorem gAt_set {gs : List Int} (hl : gs.length = 225) {a b p q : Nat} (ha : a < 15) (hb : b < 15) (hp : p < 15) (hq : q < 15) (n : Int) :
    gAt (gSet gs a b n) p q = if (p = a /\ q = b) \/ (p = b /\ q = a) then n else gAt gs p q := by
  simp only [gAt, gSet, List.getD_eq_getElem?_getD, List.getElem?_set, List.length_set]
  by_cases h1 : b * 15 + a = p * 15 + q
  · rw [if_pos h1, if_pos (by omega), if_pos (by omega)]; rfl
  · rw [if_neg h1]
    by_cases h2 : a * 15 + b = p * 15 + q
    · rw [if_pos h2, if_pos (by omega), if_pos (by omega)]; rfl
    · rw [if_neg h2, if_neg (by omega)]

def GridOf (gs : List Int) (bs : List Bk) : Prop := gs.length = 225 /\ ∀ p q : Nat, p < 15 -> q < 15 -> gAt gs p q = if p = q then -1 else third bs p q

theorem gridOf_nil : GridOf (List.replicate 225 (-1)) [] := by
  refine ⟨List.length_replicate, fun p q hp hq => ?_⟩
  simp only [gAt, List.getD_eq_getElem?_getD, List.getElem?_replicate, third, List.find?_nil]
  rw [if_pos (by omega)]
  split <;> rfl

theorem gridOf_snoc {gs : List Int} {bs : List Bk} (h : GridOf gs bs) (hg : ∀ x ∈ bs, good 15 x = true) {a b c : Nat} (hab : a < b) (hbc : b < c) (hc : c < 15) (hl : leftB bs ⟨a, b, c⟩ = true) :
    GridOf (gSet (gSet (gSet gs a b (c : Int)) b c (a : Int)) c a (b : Int)) (bs ++ [⟨a, b, c⟩]) := by
  obtain ⟨hl0, h⟩ := h
  simp only [leftB, Bool.and_eq_true, decide_eq_true_eq] at hl
  refine ⟨by simp [gSet_length, hl0], fun p q hp hq => ?_⟩
  rw [gAt_set (by simp [gSet_length, hl0]) hc (by omega) hp hq, gAt_set (by simp [gSet_length, hl0]) (by omega) hc hp hq, gAt_set hl0 (by omega) (by omega) hp hq, h p q hp hq]
  have hac := hl.2.1
  have hca : third bs (c : Int) (a : Int) = -1 := by rw [third_comm]; exact hac
  by_cases e : p = q
  · subst e
    rw [if_neg (by omega), if_neg (by omega), if_neg (by omega), if_pos rfl, if_pos rfl]
  · rw [if_neg e, if_neg e]
    by_cases h1 : (p = c /\ q = a) \/ (p = a /\ q = c)
    · rw [if_pos h1, third_snoc_in hg (by omega) (by rw [Bk.has_iff]; simp only; omega) (by rw [Bk.has_iff]; simp only; omega)]
      · simp only; omega
      · rcases h1 with ⟨rfl, rfl⟩ | ⟨rfl, rfl⟩
        · exact hca
        · exact hac
    · rw [if_neg h1]
      by_cases h2 : (p = b /\ q = c) \/ (p = c /\ q = b)
      · rw [if_pos h2, third_snoc_in hg (by omega) (by rw [Bk.has_iff]; simp only; omega) (by rw [Bk.has_iff]; simp only; omega)]
        · simp only; omega
        · rcases h2 with ⟨rfl, rfl⟩ | ⟨rfl, rfl⟩
          · exact hl.2.2
          · rw [third_comm]; exact hl.2.2
      · rw [if_neg h2]
        by_cases h3 : (p = a /\ q = b) \/ (p = b /\ q = a)
        · rw [if_pos h3, third_snoc_in hg (by omega) (by rw [Bk.has_iff]; simp only; omega) (by rw [Bk.has_iff]; simp only; omega)]
          · simp only; omega
          · rcases h3 with ⟨rfl, rfl⟩ | ⟨rfl, rfl⟩
            · exact hl.1
            · rw [third_comm]; exact hl.1
        · rw [if_neg h3, third_snoc_out]
          rw [Bk.has_iff, Bk.has_iff]; simp only; omega

theorem gridOf_left {gs : List Int} {bs : List Bk} (h : GridOf gs bs) {a b c : Nat} (hab : a < b) (hbc : b < c) (hc : c < 15) :
    (decide (gAt gs a b = -1) && (decide (gAt gs a c = -1) && decide (gAt gs b c = -1))) = leftB bs ⟨a, b, c⟩ := by
  rw [h.2 a b (by omega) (by omega), h.2 a c (by omega) (by omega), h.2 b c (by omega) (by omega), if_neg (by omega), if_neg (by omega), if_neg (by omega)]
  rfl

end Go.Ab
end

section
namespace Go.Proofs.YtkimaohcmcfcnaaDoor
open Go.Ab

def GridAt (H : Heap) (id : Nat) (gs : List Int) : Prop := H[id]? = some ⟨ints gs, true, true⟩ /\ gs.length = 225

theorem GridAt.load {H : Heap} {id : Nat} {gs : List Int} (h : GridAt H id gs) {k : Nat} (hk : k < 225) : cellsAt H id k 1 = some [.int .i64 (gs.getD k 0)] := by
  refine Holds.cell ⟨true, h.1⟩ ?_
  have := h.2
  rw [ints_get, List.getD_eq_getElem?_getD, List.getElem?_eq_getElem (by omega)]
  rfl

theorem GridAt.store {H : Heap} {id : Nat} {gs : List Int} (h : GridAt H id gs) {k : Nat} (hk : k < 225) (n : Int) :
    storeAt H id k [.int .i64 n] = some (H.set id ⟨ints (gs.set k n), true, true⟩) /\ GridAt (H.set id ⟨ints (gs.set k n), true, true⟩) id (gs.set k n) := by
  have hl := h.2
  refine ⟨?_, by rw [List.getElem?_set_self (List.getElem?_eq_some_iff.1 h.1).1], by simpa using hl⟩
  rw [storeAt_of h.1 rfl rfl (by simp only [ints_length, List.length_singleton]; omega) (by simp [Value.oneCell']), over_one (by simp only [ints_length]; omega), ints_set]

theorem newGrid_ok {H : Heap} (Post : Value -> Heap -> Prop) (h : ∀ H' id, H <+: H' -> H.length <= id -> GridAt H' id (List.replicate 225 (-1)) -> Post (.pointer (some ⟨id, 0, none⟩)) H') :
    ACalls Tryd.prog 64 [] H Post := by
  refine acalls_vc (rs := [.tmp 0]) Tryd.func64 rfl rfl Tryd.ntmps64 rfl rfl ?_
  simp (maxSteps := 1000000) [go_sem, -List.reduceReplicate]
  have hz : List.replicate 225 (Value.int .i64 0) = ints (List.replicate 225 0) := by simp only [ints, List.map_replicate]
  rw [hz]
  have hg0 : GridAt (H ++ [⟨ints (List.replicate 225 0), true, true⟩]) H.length (List.replicate 225 0) := ⟨by simp only [List.getElem?_concat_length], List.length_replicate⟩
  have hp0 : H <+: H ++ [⟨ints (List.replicate 225 0), true, true⟩] := List.prefix_append _ _
  generalize H ++ [⟨ints (List.replicate 225 0), true, true⟩] = H1 at hg0 hp0 ⊢
  have hset : ∀ m, m < 225 -> (List.replicate m (-1 : Int) ++ List.replicate (225 - m) 0).set m (-1) = List.replicate (m + 1) (-1) ++ List.replicate (225 - (m + 1)) 0 := by
    intro m hm
    rw [List.set_append_right _ _ (by rw [List.length_replicate]; exact Nat.le_refl _), List.length_replicate, Nat.sub_self, show 225 - m = (225 - (m + 1)) + 1 by omega, List.replicate_succ, List.set_cons_zero, <- List.replicate_append_replicate, List.append_assoc]
    rfl
  have keep : ∀ {H' : Heap} {b : Blk}, H <+: H' -> H <+: H'.set H.length b := fun hp =>
    (show Same (fun j => j = H.length) H _ from (Same.of_prefix hp).trans Same.set).prefix (by omega)
  refine AWp.loopVc (fun s : Nat => [(1, .pointer (some ⟨H.length, 0, none⟩)), (4, .int .i64 s)])
    (fun s H' => s <= 15 /\ H <+: H' /\ GridAt H' H.length (List.replicate (s * 15) (-1) ++ List.replicate (225 - s * 15) 0)) (fun s => 15 - s) 0 ?_ ?_ ?_
  · simp [upF, Fr.get, Up.refl]
  · exact ⟨by omega, hp0, by simpa only [Nat.zero_mul, List.replicate_zero, List.nil_append, Nat.sub_zero] using hg0⟩
  · rintro K s H' ⟨hs, hp, hg⟩ hK
    by_cases hlt : s < 15
    · have hlt' : (s : Int) < 15 := by omega
      simp (maxSteps := 1000000) [go_sem, hlt, hlt']
      refine AWp.loopVc (fun t : Nat => [(1, .pointer (some ⟨H.length, 0, none⟩)), (2, .int .i64 s), (4, .int .i64 s), (7, .int .i64 t)])
        (fun t H2 => t <= 15 /\ H <+: H2 /\ GridAt H2 H.length (List.replicate (s * 15 + t) (-1) ++ List.replicate (225 - (s * 15 + t)) 0)) (fun t => 15 - t) 0 ?_ ?_ ?_
      · simp [upF, Fr.get, Up.refl]
      · exact ⟨by omega, hp, by simpa only [Nat.add_zero] using hg⟩
      · rintro K2 t H2 ⟨ht, hp2, hg2⟩ hK2
        by_cases htl : t < 15
        · have htl' : (t : Int) < 15 := by omega
          have hw : IntKind.i64.wrap ((t : Int) + 1) = (t : Int) + 1 := i64w (by omega) (by omega)
          obtain ⟨hst, hg3⟩ := hg2.store (k := s * 15 + t) (by omega) (-1)
          rw [hset _ (by omega)] at hst hg3
          rw [show 225 - (s * 15 + t + 1) = 224 - (s * 15 + t) by omega] at hst hg3
          simp (maxSteps := 1000000) [go_sem, hlt, hlt', htl, htl', hw, Value.oneCell', hst, -List.reduceReplicate]
          exact hK2 (t + 1) _ _ (by omega) (by simp [upF, Fr.get, Up.refl]) ⟨by omega, keep hp2, by rw [show 225 - (s * 15 + (t + 1)) = 224 - (s * 15 + t) by omega]; exact hg3⟩
        · have : t = 15 := by omega
          subst this
          have hw : IntKind.i64.wrap ((s : Int) + 1) = (s : Int) + 1 := i64w (by omega) (by omega)
          simp (maxSteps := 1000000) [go_sem, hw]
          refine hK (s + 1) _ _ (by omega) (by simp [upF, Fr.get, Up.refl]) ⟨by omega, hp2, ?_⟩
          rw [Nat.add_mul, Nat.one_mul]; exact hg2
    · have : s = 15 := by omega
      subst this
      simp (maxSteps := 1000000) [go_sem]
      exact h H' H.length hp (Nat.le_refl _) (by simpa using hg)

theorem isLeft_ok {H : Heap} {id : Nat} {gs : List Int} (hg : GridAt H id gs) {a b c : Nat} (ha : a < 15) (hb : b < 15) (hc : c < 15) (Post : Value -> Heap -> Prop)
    (h : ∀ H', H <+: H' -> Post (.bool (decide (gAt gs a b = -1) && (decide (gAt gs a c = -1) && decide (gAt gs b c = -1)))) H') :
    ACalls Tryd.prog 65 [.pointer (some ⟨id, 0, none⟩), (Bk.mk a b c).val] H Post := by
  refine acalls_vc (rs := [.tmp 4]) Tryd.func65 rfl rfl Tryd.ntmps65 rfl rfl ?_
  simp (maxSteps := 1000000) [go_sem, Bk.val, Value.oneCell']
  refine AWp.draw mixed [(0, false), (1, false), (2, false), (3, false), (4, false), (5, false), (6, false), (7, false), (8, false), (9, false), (10, false), (11, false), (12, false), (13, false), (14, false), (15, false), (16, false), (17, false), (18, false), (19, false), (20, false), (21, false), (22, false), (23, false), (24, false), (25, false), (26, false), (27, false), (28, false), (29, false), (30, false), (31, false), (32, false), (33, false), (34, false)] (by kernel_rfl) ?_
  have keep : GridAt (H ++ [⟨[.int .i64 a, .int .i64 b, .int .i64 c], true, true⟩]) id gs := ⟨Same.get (S := fun _ => False) (Same.of_prefix (List.prefix_append _ _)) hg.1 (fun h => h), hg.2⟩
  have h := h _ (List.prefix_append H [⟨[.int .i64 a, .int .i64 b, .int .i64 c], true, true⟩])
  have c1 : cellsAt _ id (a * 15 + b) 1 = some [.int .i64 (gAt gs a b)] := keep.load (by omega)
  have c2 : cellsAt _ id (a * 15 + c) 1 = some [.int .i64 (gAt gs a c)] := keep.load (by omega)
  have c3 : cellsAt _ id (b * 15 + c) 1 = some [.int .i64 (gAt gs b c)] := keep.load (by omega)
  generalize gAt gs a b = x at c1 h
  generalize gAt gs a c = y at c2 h
  generalize gAt gs b c = z at c3 h
  have ha' : (a : Int) < 15 := by omega
  have hb' : (b : Int) < 15 := by omega
  have hc' : (c : Int) < 15 := by omega
  by_cases hx : x = -1
  · by_cases hy : y = -1
    · by_cases hz : z = -1
      · simp (maxSteps := 1000000) [go_sem, ha, hb, hc, ha', hb', hc', c1, c2, c3, hx, hy, hz]
        simpa [hx, hy, hz] using h
      · have hz' : (z == -1) = false := by simpa using hz
        simp (maxSteps := 1000000) [go_sem, ha, hb, hc, ha', hb', hc', c1, c2, c3, hx, hy, hz']
        simpa [hx, hy, hz] using h
    · have hy' : (y == -1) = false := by simpa using hy
      simp (maxSteps := 1000000) [go_sem, ha, hb, hc, ha', hb', hc', c1, c2, c3, hx, hy']
      simpa [hx, hy] using h
  · have hx' : (x == -1) = false := by simpa using hx
    simp (maxSteps := 1000000) [go_sem, ha, hb, hc, ha', hb', hc', c1, c2, c3, hx']
    simpa [hx] using h

def gPut (is : Bool) (a b c : Nat) : Nat -> List Int -> List Int
  | 0, gs => gs
  | 1, gs => gSet gs a b (if is then (c : Int) else -1)
  | 2, gs => gSet (gSet gs a b (if is then (c : Int) else -1)) b c (if is then (a : Int) else -1)
  | _, gs => gSet (gSet (gSet gs a b (if is then (c : Int) else -1)) b c (if is then (a : Int) else -1)) c a (if is then (b : Int) else -1)

theorem put_ok {H : Heap} {id : Nat} {gs : List Int} {is : Bool} (hg : GridAt H id gs) {a b c : Nat} (ha : a < 15) (hb : b < 15) (hc : c < 15) (Post : Value -> Heap -> Prop)
    (h : ∀ H', Same (fun j => j = id) H H' -> GridAt H' id (gPut is a b c 3 gs) -> Post (.tuple #[]) H') :
    ACalls Tryd.prog 66 [.pointer (some ⟨id, 0, none⟩), (Bk.mk a b c).val, .bool is] H Post := by
  refine acalls_vc (rs := []) Tryd.func66 rfl rfl Tryd.ntmps66 rfl rfl ?_
  simp (maxSteps := 1000000) [go_sem, Bk.val, Value.oneCell']
  have hid : id < H.length := (List.getElem?_eq_some_iff.1 hg.1).1
  have ha' : (a : Int) < 15 := by omega
  have hb' : (b : Int) < 15 := by omega
  have hc' : (c : Int) < 15 := by omega
  refine AWp.loopVc (fun s : Nat => [(0, .pointer (some ⟨id, 0, none⟩)), (2, .bool is), (4, .pointer (some ⟨H.length, 0, none⟩)), (10, .agg #[.int .i64 a, .int .i64 b, .int .i64 c]), (11, .int .i64 s)])
    (fun s H' => s <= 3 /\ Same (fun j => j = id) H H' /\ H'[H.length]? = some ⟨[.int .i64 a, .int .i64 b, .int .i64 c], true, true⟩ /\ GridAt H' id (gPut is a b c s gs)) (fun s => 3 - s) 0 ?_ ?_ ?_
  · simp [upF, Fr.get, Up.refl]
  · exact ⟨by omega, Same.of_prefix (List.prefix_append _ _), by simp, ⟨Same.get (S := fun _ => False) (Same.of_prefix (List.prefix_append _ _)) hg.1 (fun h => h), hg.2⟩⟩
  · rintro K s H' ⟨hs, hsame, hbox, hg⟩ hK
    have : s = 0 \/ s = 1 \/ s = 2 \/ s = 3 := by omega
    rcases this with rfl | rfl | rfl | rfl
    · have hw : IntKind.i64.wrap 1 = 1 := i64w (by omega) (by omega)
      have hm1 : (IntKind.i64.wrap 1).tmod 3 = 1 := by rw [i64w (by omega) (by omega)]; rfl
      have hm2 : (IntKind.i64.wrap 2).tmod 3 = 2 := by rw [i64w (by omega) (by omega)]; rfl
      have hm1' : (1 : Int).tmod 3 = 1 := rfl
      have hm2' : (2 : Int).tmod 3 = 2 := rfl
      obtain ⟨st1, g1⟩ := hg.store (k := a * 15 + b) (by omega) (if is then (c : Int) else -1)
      obtain ⟨st2, g2⟩ := g1.store (k := b * 15 + a) (by omega) (if is then (c : Int) else -1)
      simp only [List.set_set] at st2 g2
      have l0 : cellsAt H' H.length 1 1 = some [.int .i64 b] := Holds.cell ⟨true, hbox⟩ rfl
      have l1 : cellsAt H' H.length 2 1 = some [.int .i64 c] := Holds.cell ⟨true, hbox⟩ rfl
      have fin : ∀ fr', upF _ [(0, .pointer (some ⟨id, 0, none⟩)), (2, .bool is), (4, .pointer (some ⟨H.length, 0, none⟩)), (10, .agg #[.int .i64 a, .int .i64 b, .int .i64 c]), (11, .int .i64 1)] fr' -> K fr' _ := fun fr' hf =>
        hK 1 fr' _ (by omega) hf ⟨by omega, hsame.trans Same.set, by rw [List.getElem?_set_ne (by omega)]; exact hbox, g2⟩
      simp (maxSteps := 1000000) [go_sem, hw, partV]
      refine AWp.draw mixed [(0, false), (1, false), (2, false), (3, false), (4, false), (5, false), (6, false), (7, false), (8, false), (9, false), (10, false), (11, false)] (by kernel_rfl) ?_
      simp (maxSteps := 1000000) [go_sem, hw, hm1, hm2, hm1', hm2', l0, l1]
      refine condK_intro (fun his => ?_) (fun his => ?_)
      · obtain rfl : is = false := by simpa using his
        simp only [Bool.false_eq_true, if_false] at st1 st2 fin
        refine AWp.draw mixed [(0, false), (1, false), (2, false), (3, false), (4, false), (5, false), (6, false), (7, false), (8, false), (10, false), (11, false), (9, false), (12, false), (13, false)] (by kernel_rfl) ?_
        simp (maxSteps := 1000000) [go_sem, hw, hm1, hm2, hm1', hm2', l0, l1, st1, st2, ha', hb', hc', Value.oneCell']
        exact fin _ (by simp [upF, Fr.get, Up.refl])
      · obtain rfl : is = true := by simpa using his
        simp only [if_true] at st1 st2 fin
        refine AWp.draw mixed [(0, false), (1, false), (2, false), (3, false), (4, false), (5, false), (6, false), (7, false), (8, false), (9, false), (10, false), (12, false), (13, false), (11, false), (14, false), (15, false)] (by kernel_rfl) ?_
        simp (maxSteps := 1000000) [go_sem, hw, hm1, hm2, hm1', hm2', l0, l1, st1, st2, ha', hb', hc', Value.oneCell']
        exact fin _ (by simp [upF, Fr.get, Up.refl])
    · have hw : IntKind.i64.wrap 2 = 2 := i64w (by omega) (by omega)
      have hm1 : (IntKind.i64.wrap 2).tmod 3 = 2 := by rw [i64w (by omega) (by omega)]; rfl
      have hm2 : (IntKind.i64.wrap 3).tmod 3 = 0 := by rw [i64w (by omega) (by omega)]; rfl
      have hm1' : (2 : Int).tmod 3 = 2 := rfl
      have hm2' : (3 : Int).tmod 3 = 0 := rfl
      obtain ⟨st1, g1⟩ := hg.store (k := b * 15 + c) (by omega) (if is then (a : Int) else -1)
      obtain ⟨st2, g2⟩ := g1.store (k := c * 15 + b) (by omega) (if is then (a : Int) else -1)
      simp only [List.set_set] at st2 g2
      have l0 : cellsAt H' H.length 2 1 = some [.int .i64 c] := Holds.cell ⟨true, hbox⟩ rfl
      have l1 : cellsAt H' H.length 0 1 = some [.int .i64 a] := Holds.cell ⟨true, hbox⟩ rfl
      have fin : ∀ fr', upF _ [(0, .pointer (some ⟨id, 0, none⟩)), (2, .bool is), (4, .pointer (some ⟨H.length, 0, none⟩)), (10, .agg #[.int .i64 a, .int .i64 b, .int .i64 c]), (11, .int .i64 2)] fr' -> K fr' _ := fun fr' hf =>
        hK 2 fr' _ (by omega) hf ⟨by omega, hsame.trans Same.set, by rw [List.getElem?_set_ne (by omega)]; exact hbox, g2⟩
      simp (maxSteps := 1000000) [go_sem, hw, partV]
      refine AWp.draw mixed [(0, false), (1, false), (2, false), (3, false), (4, false), (5, false), (6, false), (7, false), (8, false), (9, false), (10, false), (11, false)] (by kernel_rfl) ?_
      simp (maxSteps := 1000000) [go_sem, hw, hm1, hm2, hm1', hm2', l0, l1]
      refine condK_intro (fun his => ?_) (fun his => ?_)
      · obtain rfl : is = false := by simpa using his
        simp only [Bool.false_eq_true, if_false] at st1 st2 fin
        refine AWp.draw mixed [(0, false), (1, false), (2, false), (3, false), (4, false), (5, false), (6, false), (7, false), (8, false), (10, false), (11, false), (9, false), (12, false), (13, false)] (by kernel_rfl) ?_
        simp (maxSteps := 1000000) [go_sem, hw, hm1, hm2, hm1', hm2', l0, l1, st1, st2, ha', hb', hc', Value.oneCell']
        exact fin _ (by simp [upF, Fr.get, Up.refl])
      · obtain rfl : is = true := by simpa using his
        simp only [if_true] at st1 st2 fin
        refine AWp.draw mixed [(0, false), (1, false), (2, false), (3, false), (4, false), (5, false), (6, false), (7, false), (8, false), (9, false), (10, false), (12, false), (13, false), (11, false), (14, false), (15, false)] (by kernel_rfl) ?_
        simp (maxSteps := 1000000) [go_sem, hw, hm1, hm2, hm1', hm2', l0, l1, st1, st2, ha', hb', hc', Value.oneCell']
        exact fin _ (by simp [upF, Fr.get, Up.refl])
    · have hw : IntKind.i64.wrap 3 = 3 := i64w (by omega) (by omega)
      have hm1 : (IntKind.i64.wrap 3).tmod 3 = 0 := by rw [i64w (by omega) (by omega)]; rfl
      have hm2 : (IntKind.i64.wrap 4).tmod 3 = 1 := by rw [i64w (by omega) (by omega)]; rfl
      have hm1' : (3 : Int).tmod 3 = 0 := rfl
      have hm2' : (4 : Int).tmod 3 = 1 := rfl
      obtain ⟨st1, g1⟩ := hg.store (k := c * 15 + a) (by omega) (if is then (b : Int) else -1)
      obtain ⟨st2, g2⟩ := g1.store (k := a * 15 + c) (by omega) (if is then (b : Int) else -1)
      simp only [List.set_set] at st2 g2
      have l0 : cellsAt H' H.length 0 1 = some [.int .i64 a] := Holds.cell ⟨true, hbox⟩ rfl
      have l1 : cellsAt H' H.length 1 1 = some [.int .i64 b] := Holds.cell ⟨true, hbox⟩ rfl
      have fin : ∀ fr', upF _ [(0, .pointer (some ⟨id, 0, none⟩)), (2, .bool is), (4, .pointer (some ⟨H.length, 0, none⟩)), (10, .agg #[.int .i64 a, .int .i64 b, .int .i64 c]), (11, .int .i64 3)] fr' -> K fr' _ := fun fr' hf =>
        hK 3 fr' _ (by omega) hf ⟨by omega, hsame.trans Same.set, by rw [List.getElem?_set_ne (by omega)]; exact hbox, g2⟩
      simp (maxSteps := 1000000) [go_sem, hw, partV]
      refine AWp.draw mixed [(0, false), (1, false), (2, false), (3, false), (4, false), (5, false), (6, false), (7, false), (8, false), (9, false), (10, false), (11, false)] (by kernel_rfl) ?_
      simp (maxSteps := 1000000) [go_sem, hw, hm1, hm2, hm1', hm2', l0, l1]
      refine condK_intro (fun his => ?_) (fun his => ?_)
      · obtain rfl : is = false := by simpa using his
        simp only [Bool.false_eq_true, if_false] at st1 st2 fin
        refine AWp.draw mixed [(0, false), (1, false), (2, false), (3, false), (4, false), (5, false), (6, false), (7, false), (8, false), (10, false), (11, false), (9, false), (12, false), (13, false)] (by kernel_rfl) ?_
        simp (maxSteps := 1000000) [go_sem, hw, hm1, hm2, hm1', hm2', l0, l1, st1, st2, ha', hb', hc', Value.oneCell']
        exact fin _ (by simp [upF, Fr.get, Up.refl])
      · obtain rfl : is = true := by simpa using his
        simp only [if_true] at st1 st2 fin
        refine AWp.draw mixed [(0, false), (1, false), (2, false), (3, false), (4, false), (5, false), (6, false), (7, false), (8, false), (9, false), (10, false), (12, false), (13, false), (11, false), (14, false), (15, false)] (by kernel_rfl) ?_
        simp (maxSteps := 1000000) [go_sem, hw, hm1, hm2, hm1', hm2', l0, l1, st1, st2, ha', hb', hc', Value.oneCell']
        exact fin _ (by simp [upF, Fr.get, Up.refl])
    · simp (maxSteps := 1000000) [go_sem]
      exact h H' hsame hg

end Go.Proofs.YtkimaohcmcfcnaaDoor
end

section
namespace Go.Proofs.YtkimaohcmcfcnaaDoor
open Go.Ab

theorem GridAt.keep {H H' : Heap} {id : Nat} {gs : List Int} (h : GridAt H id gs) (hp : H <+: H') : GridAt H' id gs :=
  ⟨Same.get (S := fun _ => False) (Same.of_prefix hp) h.1 (fun h => h), h.2⟩

theorem good_nat {v : Int} {b : Bk} (h : good v b = true) (hv : v <= 15) : ∃ x y z : Nat, b = ⟨x, y, z⟩ /\ x < y /\ y < z /\ z < 15 := by
  rw [good_iff] at h
  obtain ⟨a, b, c⟩ := b
  simp only at h
  exact ⟨a.toNat, b.toNat, c.toNat, by simp only [Bk.mk.injEq]; omega, by omega, by omega, by omega⟩

theorem gridOf_ok {H : Heap} {u : Value} {bs : List Bk} (hu : BlocksAt H u bs) (hg : ∀ x ∈ bs, good 15 x = true) (Post : Value -> Heap -> Prop)
    (hbad : ∀ H', H <+: H' -> ¬ Fits bs -> Post (.tuple #[.pointer none, .bool false]) H')
    (hgood : ∀ H' id gs, H <+: H' -> H.length <= id -> GridAt H' id gs -> GridOf gs bs -> Fits bs -> Post (.tuple #[.pointer (some ⟨id, 0, none⟩), .bool true]) H') :
    ACalls Tryd.prog 49 [u] H Post := by
  obtain ⟨i, o, rfl, h1, h2⟩ := hu
  refine acalls_vc (rs := [.tmp 2, .tmp 3]) Tryd.func49 rfl rfl Tryd.ntmps49 rfl rfl ?_
  simp (maxSteps := 1000000) [go_sem]
  refine newGrid_ok _ ?_
  intro H0 id hp0 hid hg0
  simp (maxSteps := 1000000) [go_sem]
  refine AWp.loopVc (St := Nat × List Int) (fun s => [(4, .pointer (some ⟨id, 0, none⟩)), (8, lv 3 i o bs.length), (9, .int .i64 bs.length), (10, .int .i64 s.1)])
    (fun s H' => s.1 <= bs.length /\ H <+: H' /\ GridAt H' id s.2 /\ GridOf s.2 (bs.take s.1) /\ Fits (bs.take s.1)) (fun s => bs.length - s.1) (0, List.replicate 225 (-1)) ?_ ?_ ?_
  · simp [upF, Fr.get, Up.refl]
  · refine ⟨by simp, hp0, hg0, by simpa using gridOf_nil, ?_⟩
    intro i k x y hk hx; simp at hx
  · rintro K ⟨s, gs⟩ H' ⟨hs, hp, hgr, hof, hfit⟩ hK
    simp only at hs hgr hof hfit
    by_cases hlt : s < bs.length
    · have hbs : bs[s]? = some bs[s] := List.getElem?_eq_getElem hlt
      have c1 := (h1.pre hp).bk hbs
      obtain ⟨a, b, c, hb, hab, hbc, hc⟩ := good_nat (hg _ (List.mem_of_getElem? hbs)) (by omega)
      have hgt : ∀ x ∈ bs.take s, good 15 x = true := fun x hx => hg x (List.mem_of_mem_take hx)
      have htake : bs.take (s + 1) = bs.take s ++ [⟨a, b, c⟩] := by rw [List.take_succ_eq_append_getElem hlt, hb]
      have hgb : good 15 ⟨a, b, c⟩ = true := by rw [good_iff]; simp only; omega
      rw [hb] at c1
      simp only [Bk.cells] at c1
      have hw_s : IntKind.i64.wrap ((s : Int) + 1) = (s : Int) + 1 := i64w (by omega) (by omega)
      simp (maxSteps := 1000000) [go_sem, hlt, c1, Value.oneCell']
      have hp2 : H' <+: H' ++ [⟨[.int .i64 a, .int .i64 b, .int .i64 c], true, true⟩] := List.prefix_append _ _
      have hbox : (H' ++ [(⟨[.int .i64 a, .int .i64 b, .int .i64 c], true, true⟩ : Blk)])[H'.length]? = some ⟨[.int .i64 a, .int .i64 b, .int .i64 c], true, true⟩ := by simp
      refine isLeft_ok (hgr.keep hp2) (by omega) (by omega) hc _ ?_
      intro H3 hp3
      rw [gridOf_left hof hab hbc hc]
      have d1 : cellsAt H3 H'.length 0 3 = some [.int .i64 a, .int .i64 b, .int .i64 c] := by
        have := Holds.cells (n := 3) (o := 0) ⟨true, pget hp3 hbox⟩ (by simp)
        simpa using this
      cases hl : leftB (bs.take s) ⟨a, b, c⟩ with
      | false =>
        simp (maxSteps := 1000000) [go_sem]
        refine hbad H3 (hp.trans (hp2.trans hp3)) (fun hF => ?_)
        have := (leftB_iff hgt hgb).2 (fits_snoc.1 (htake ▸ fits_take hF (s + 1))).2
        rw [hl] at this; cases this
      | true =>
        simp (maxSteps := 1000000) [go_sem, d1]
        refine put_ok ((hgr.keep hp2).keep hp3) (by omega) (by omega) hc _ ?_
        intro H4 hs4 hg4
        simp (maxSteps := 1000000) [go_sem, hw_s]
        refine hK (s + 1, gPut true a b c 3 gs) _ _ (by simp only; omega) (by simp [upF, Fr.get, Up.refl]) ⟨by simp only; omega, ?_, hg4, ?_, ?_⟩
        · exact ((Same.of_prefix (hp.trans (hp2.trans hp3))).trans hs4).prefix (by omega)
        · simp only [htake]; exact gridOf_snoc hof hgt hab hbc hc hl
        · simp only [htake]; exact fits_snoc.2 ⟨hfit, (leftB_iff hgt hgb).1 hl⟩
    · have : s = bs.length := by omega
      subst this
      simp (maxSteps := 1000000) [go_sem]
      rw [List.take_length] at hof hfit
      exact hgood H' id gs hp hid hgr hof hfit

theorem sorted_snoc {p : Int} {bs : List Bk} {s : Nat} (hs : s < bs.length) (h : ∀ (a : Nat) (x : Bk), a < s -> bs[a]? = some x -> good p x = true /\ ∀ y, 0 < a -> bs[a - 1]? = some y -> before y x = true)
    (hg : good p bs[s] = true) (hb : ∀ y, 0 < s -> bs[s - 1]? = some y -> before y bs[s] = true) : ∀ (a : Nat) (x : Bk), a < s + 1 -> bs[a]? = some x -> good p x = true /\ ∀ y, 0 < a -> bs[a - 1]? = some y -> before y x = true := by
  intro a x ha hx
  by_cases e : a = s
  · subst e
    rw [List.getElem?_eq_getElem hs] at hx; cases hx
    exact ⟨hg, hb⟩
  · exact h a x (by omega) hx

theorem areBlocks_ok {H : Heap} {u : Value} {p : Int} {bs : List Bk} (hu : BlocksAt H u bs) (Post : Value -> Heap -> Prop) (h : ∀ H' b, H <+: H' -> (b = true ↔ IsSys p bs) -> Post (.bool b) H') :
    ACalls Tryd.prog 35 [.int .i64 p, u] H Post := by
  obtain ⟨i, o, rfl, h1, h2⟩ := hu
  refine acalls_vc (rs := [.tmp 4]) Tryd.func35 rfl rfl Tryd.ntmps35 rfl rfl ?_
  simp (maxSteps := 1000000) [go_sem]
  refine within_ok _ ?_
  by_cases hin : 3 <= p /\ p <= 15
  · by_cases hl35 : bs.length <= 35
    · have hgt : ¬ ((35 : Int) < bs.length) := by omega
      simp (maxSteps := 1000000) [go_sem, hin.1, hin.2, hgt]
      refine AWp.loopVc (fun s : Nat => [(0, .int .i64 p), (1, lv 3 i o bs.length), (17, lv 3 i o bs.length), (18, .int .i64 bs.length), (19, .int .i64 s)])
        (fun s H' => s <= bs.length /\ H <+: H' /\ ∀ (a : Nat) (x : Bk), a < s -> bs[a]? = some x -> good p x = true /\ ∀ y, 0 < a -> bs[a - 1]? = some y -> before y x = true) (fun s => bs.length - s) 0 ?_ ?_ ?_
      · simp [upF, Fr.get, Up.refl]
      · exact ⟨by omega, List.prefix_refl _, by intro a x ha; omega⟩
      · rintro K s H' ⟨hs, hp, hf⟩ hK
        by_cases hlt : s < bs.length
        · have hbs : bs[s]? = some bs[s] := List.getElem?_eq_getElem hlt
          have c1 := (h1.pre hp).bk hbs
          simp only [Bk.cells] at c1
          have hw_s : IntKind.i64.wrap ((s : Int) + 1) = (s : Int) + 1 := i64w (by omega) (by omega)
          simp (maxSteps := 1000000) [go_sem, hlt, c1, Value.oneCell']
          refine AWp.draw mixed [(0, false), (1, false), (2, false), (3, false), (4, false), (5, false), (6, false), (7, false), (8, false), (9, false), (10, false), (11, false), (12, false), (13, false), (14, false), (15, false), (16, false), (17, false)] (by kernel_rfl) ?_
          simp (maxSteps := 1000000) [go_sem]
          refine isBlock_ok (b := bs[s]) (by omega) (by omega) _ ?_
          intro H2 hp2
          have hp2' : H' <+: H2 := (List.prefix_append _ _).trans hp2
          have hbox : H2[H'.length]? = some ⟨[.int .i64 bs[s].a, .int .i64 bs[s].b, .int .i64 bs[s].c], true, true⟩ := pget hp2 (by simp)
          have d1 : cellsAt H2 H'.length 0 3 = some [.int .i64 bs[s].a, .int .i64 bs[s].b, .int .i64 bs[s].c] := by
            simpa using Holds.cells (n := 3) (o := 0) ⟨true, hbox⟩ (by simp)
          by_cases hg : good p bs[s] = true
          · by_cases h0 : s = 0
            · subst h0
              simp (maxSteps := 1000000) [go_sem, hg, i64w (n := 1)]
              exact hK 1 _ _ (by omega) (by simp [upF, Fr.get, Up.refl]) ⟨by omega, hp.trans hp2', sorted_snoc hlt hf hg (by intro y hy; omega)⟩
            · obtain ⟨r, rfl⟩ : ∃ r, s = r + 1 := ⟨s - 1, by omega⟩
              have hbr : bs[r]? = some (bs[r]'(by omega)) := List.getElem?_eq_getElem _
              have e2 := (h1.pre (hp.trans hp2')).bk hbr
              simp only [Bk.cells] at e2
              have hr : r < bs.length := by omega
              have hw3 : IntKind.i64.wrap (r : Int) = (r : Int) := i64w (by omega) (by omega)
              have hw4 : IntKind.i64.wrap ((r : Int) + 1 + 1) = (r : Int) + 1 + 1 := i64w (by omega) (by omega)
              simp (maxSteps := 1000000) [go_sem, hg, d1, e2, hlt, hr, hw3]
              refine compare_ok (b := bs[r]'(by omega)) (d := bs[r + 1]) _ ?_
              intro H3 hp3
              by_cases hbf : before (bs[r]'(by omega)) bs[r + 1] = true
              · have hlx : decide (0 <= lexC [(bs[r]'(by omega)).a, (bs[r]'(by omega)).b, (bs[r]'(by omega)).c] [bs[r + 1].a, bs[r + 1].b, bs[r + 1].c]) = false := by
                  rw [decide_eq_false_iff_not, lexC_block, hbf]; simp
                simp (maxSteps := 1000000) [go_sem, hlx, hw4]
                refine hK (r + 1 + 1) _ _ (by omega) (by simp [upF, Fr.get, Up.refl]) ⟨by omega, hp.trans (hp2'.trans hp3), sorted_snoc hlt hf hg ?_⟩
                intro y _ hy
                simp only [Nat.add_sub_cancel] at hy
                rw [hbr] at hy; cases hy; exact hbf
              · have hlx : decide (0 <= lexC [(bs[r]'(by omega)).a, (bs[r]'(by omega)).b, (bs[r]'(by omega)).c] [bs[r + 1].a, bs[r + 1].b, bs[r + 1].c]) = true := by
                  rw [decide_eq_true_eq, lexC_block]; simpa using hbf
                simp (maxSteps := 1000000) [go_sem, hlx]
                refine h H3 false (hp.trans (hp2'.trans hp3)) ⟨by simp, fun hS => ?_⟩
                exact absurd ((hS.2.2.1 (r + 1) _ hbs).2 _ (by omega) (by simpa using hbr)) hbf
          · simp (maxSteps := 1000000) [go_sem, hg]
            refine h H2 false (hp.trans hp2') ⟨by simp, fun hS => ?_⟩
            exact absurd (hS.2.2.1 s _ hbs).1 hg
        · have : s = bs.length := by omega
          subst this
          have hso : Sorted p bs := fun a x hx => hf a x (List.getElem?_eq_some_iff.1 hx).1 hx
          have hg15 : ∀ x ∈ bs, good 15 x = true := by
            intro x hx
            obtain ⟨k, hk⟩ := List.mem_iff_getElem?.1 hx
            have := (hso k x hk).1
            rw [good_iff] at this ⊢; omega
          simp (maxSteps := 1000000) [go_sem]
          refine gridOf_ok ⟨i, o, rfl, h1.pre hp, h2⟩ hg15 _ (fun H2 hp2 hn => ?_) (fun H2 id gs hp2 _ _ _ hF => ?_)
          · simp (maxSteps := 1000000) [go_sem]
            exact h H2 false (hp.trans hp2) ⟨by simp, fun hS => absurd hS.2.2.2 hn⟩
          · simp (maxSteps := 1000000) [go_sem]
            exact h H2 true (hp.trans hp2) ⟨fun _ => ⟨hin, hl35, hso, hF⟩, fun _ => rfl⟩
    · have hgt : (35 : Int) < bs.length := by omega
      simp (maxSteps := 1000000) [go_sem, hin.1, hin.2, hgt]
      exact h H false (List.prefix_refl _) ⟨by simp, fun hS => absurd hS.2.1 hl35⟩
  · have hn : (decide (3 <= p) && decide (p <= 15)) = false := by simp; omega
    rw [hn]
    simp (maxSteps := 1000000) [go_sem]
    exact h H false (List.prefix_refl _) ⟨by simp, fun hS => absurd hS.1 hin⟩

theorem implIsSystem_ok {H : Heap} {u : Value} {p : Int} {bs : List Bk} (hu : BlocksAt H u bs) (Post : Value -> Heap -> Prop) (h : ∀ H' b, H <+: H' -> (b = true ↔ IsSys p bs) -> Post (.bool b) H') :
    ACalls Tryd.prog 18 [sysV p u] H Post := by
  obtain ⟨i, o, rfl, h1, h2⟩ := hu
  refine acalls_vc (rs := [.tmp 2]) Tryd.func18 rfl rfl Tryd.ntmps18 rfl rfl ?_
  simp (maxSteps := 1000000) [go_sem, sysV, Value.oneCell']
  have hp1 : H <+: H ++ [⟨[.int .i64 p, lv 3 i o bs.length], true, true⟩] := List.prefix_append _ _
  refine areBlocks_ok ⟨i, o, rfl, h1.pre hp1, h2⟩ _ ?_
  intro H' b hp hb
  simp (maxSteps := 1000000) [go_sem]
  exact h H' b (hp1.trans hp) hb

end Go.Proofs.YtkimaohcmcfcnaaDoor
end

section
namespace Go.Proofs.YtkimaohcmcfcnaaDoor
open Go.Ab

noncomputable def sysB (p : Int) (bs : List Bk) : Bool := @decide (IsSys p bs) (Classical.propDecidable _)
theorem sysB_iff {p : Int} {bs : List Bk} : sysB p bs = true ↔ IsSys p bs := by simp [sysB]
theorem sysB_eq {p : Int} {bs : List Bk} {b : Bool} (h : b = true ↔ IsSys p bs) : b = sysB p bs := by
  cases hs : sysB p bs with
  | true => exact h.2 (sysB_iff.1 hs)
  | false =>
    cases b with
    | false => rfl
    | true => exact absurd (sysB_iff.2 (h.1 rfl)) (by simp [hs])

theorem implIsSys {H : Heap} {u : Value} {p : Int} {bs : List Bk} (hu : BlocksAt H u bs) (Post : Value -> Heap -> Prop) (h : ∀ H', H <+: H' -> Post (.bool (sysB p bs)) H') :
    ACalls Tryd.prog 18 [sysV p u] H Post := implIsSystem_ok hu Post fun H' b hp hb => sysB_eq hb ▸ h H' hp
theorem l01Is' {H : Heap} {u : Value} {p : Int} {bs : List Bk} (hu : BlocksAt H u bs) (hl : bs.length <= 1048576) (Post : Value -> Heap -> Prop) (h : ∀ H', H <+: H' -> Post (.bool (sysB p bs)) H') :
    ACalls Tryd.prog 15 [sysV p u] H Post := l01Is_ok hu hl Post fun H' b hp hb => sysB_eq hb ▸ h H' hp
end Go.Proofs.YtkimaohcmcfcnaaDoor
end

section
namespace Go.Ab
open Go.RowKit (Below)

theorem R.afterB {B : Nat} {w0 : World} {ρ : Rho} {H : Heap} {w w' : World} (h : R B w0 ρ H w) (hb : Below w.heap.size w w') : R B w0 ρ H w' :=
  ⟨h.len, h.below.trans (hb.mono h.base), Nat.le_trans h.base hb.size, h.fixed, fun i b l h1 h2 h3 => (h.blk i b l h1 h2 h3).kept (List.prefix_refl _) (hb.block _ (h.blk i b l h1 h2 h3).lt), h.apart, h.ghost⟩

def bstr (l : List UInt8) : ByteArray := ⟨l.toArray⟩
theorem bstr_append (a b : List UInt8) : bstr a ++ bstr b = bstr (a ++ b) := by
  apply ByteArray.ext; simp [bstr]
theorem bstr_size (l : List UInt8) : (bstr l).size = l.length := by simp [bstr, ByteArray.size]
theorem bstr_list (l : List UInt8) : (bstr l).data.toList = l := by simp [bstr]
def strs (xs : List (List UInt8)) : List Value := xs.map fun l => .string (bstr l)
theorem u8w {n : Int} (h : 0 <= n /\ n < 256) : IntKind.u8.wrap n = n := by
  simp only [IntKind.wrap, IntKind.bits, IntKind.signed]; simp; omega

def letter (x : Int) : UInt8 := UInt8.ofNat (97 + x).toNat
def letters (b : Bk) : List UInt8 := [letter b.a, letter b.b, letter b.c]
def sysText (p : Int) (bs : List Bk) : List UInt8 := Lib.decDigits p.toNat ++ [58] ++ Lib.join (bs.map letters) [44]
def small15 (b : Bk) : Prop := (0 <= b.a /\ b.a < 15) /\ (0 <= b.b /\ b.b < 15) /\ (0 <= b.c /\ b.c < 15)

theorem join_short {xs : List (List UInt8)} {n : Nat} (h : ∀ x ∈ xs, x.length = n) (sep : List UInt8) : (Lib.join xs sep).length <= xs.length * (n + sep.length) := by
  induction xs with
  | nil => simp [Lib.join_nil]
  | cons y r ih =>
    have ih' : (Lib.joinTail sep r).length = r.length * (n + sep.length) := by
      have hr : ∀ x ∈ r, x.length = n := fun x hx => h x (by simp [hx])
      clear ih h
      induction r with
      | nil => simp [Lib.joinTail]
      | cons z t ih2 =>
        have := ih2 (fun x hx => hr x (by simp [hx]))
        simp only [Lib.joinTail, List.map_cons, List.flatten_cons, List.length_append, hr z (by simp), List.length_cons] at this ⊢
        rw [this, Nat.add_mul]; omega
    rw [Lib.join_cons, List.length_append, ih', h y (by simp), List.length_cons, Nat.add_mul]
    omega
end Go.Ab

namespace Go.Proofs.YtkimaohcmcfcnaaDoor
open Go.Ab

theorem bytes3 (x y z : Int) : bytesOf [.int .u8 x, .int .u8 y, .int .u8 z] = some [UInt8.ofNat x.toNat, UInt8.ofNat y.toNat, UInt8.ofNat z.toNat] := rfl

theorem blockText_ok {H : Heap} {b : Bk} (hb : small15 b) (Post : Value -> Heap -> Prop) (h : ∀ H', H <+: H' -> Post (.string (bstr (letters b))) H') : ACalls Tryd.prog 51 [b.val] H Post := by
  obtain ⟨⟨a1, a2⟩, ⟨b1, b2⟩, c1, c2⟩ := hb
  refine acalls_vc (rs := [.tmp 2]) Tryd.func51 rfl rfl Tryd.ntmps51 rfl rfl ?_
  have w1 := u8w (n := b.a) (by omega)
  have w2 := u8w (n := b.b) (by omega)
  have w3 := u8w (n := b.c) (by omega)
  have w4 := u8w (n := 97 + b.a) (by omega)
  have w5 := u8w (n := 97 + b.b) (by omega)
  have w6 := u8w (n := 97 + b.c) (by omega)
  simp (maxSteps := 1000000) [go_sem, Bk.val, w1, w2, w3, w4, w5, w6, bytes3]
  exact h _ (List.prefix_append _ _)

theorem format_ok {H : Heap} {n : Nat} (hn : n < 100) (Post : Value -> Heap -> Prop) (h : Post (.string (bstr (Lib.decDigits n))) H) : ACalls Tryd.prog 36 [.int .i64 n, .int .i64 10] H Post := by
  refine ⟨⟨_, Tryd.func36, rfl, rfl⟩, ?_⟩
  intro B w0 ρ w cargs hR hv
  obtain ⟨c, cs, rfl, h1, h2⟩ := hv.cons_inv
  obtain ⟨c2, cs2, rfl, h3, h4⟩ := h2.cons_inv
  obtain rfl := h4.nil_inv
  rw [h1.int_inv, h3.int_inv]
  refine (formatSmall_c n hn w).mono ?_
  rintro e W ⟨rfl, rfl⟩
  exact ⟨ρ, H, _, _, rfl, List.prefix_refl _, hR, .string _, h⟩

theorem join_ok {H : Heap} {id n : Nat} {xs : List (List UInt8)} {sep : List UInt8} (hn : xs.length = n) (hx : xs = [] \/ Holds H id (strs xs)) (hl : xs.length <= 1048576) (hs : (Lib.join xs sep).length <= 140737488355328) (Post : Value -> Heap -> Prop) (h : Post (.string (bstr (Lib.join xs sep))) H) :
    ACalls Tryd.prog 52 [.slice (some ⟨id, 0, none⟩) n n, .string (bstr sep)] H Post := by
  subst hn
  refine ⟨⟨_, Tryd.func52, rfl, rfl⟩, ?_⟩
  intro B w0 ρ w cargs hR hv
  obtain ⟨c, cs, rfl, h1, h2⟩ := hv.cons_inv
  obtain ⟨c2, cs2, rfl, h3, h4⟩ := h2.cons_inv
  obtain rfl := h4.nil_inv
  rw [h3.string_inv]
  by_cases h0 : xs = []
  · subst h0
    cases h1 with
    | sliceEx _ _ _ l hl' =>
      refine (joinNone_c _ _ _ w).mono ?_
      rintro e W ⟨rfl, rfl⟩
      exact ⟨ρ, H, _, _, rfl, List.prefix_refl _, hR, .string _, h⟩
  · have hpos : 0 < xs.length := List.length_pos_iff.2 h0
    obtain ⟨own, hb⟩ := hx.resolve_left h0
    generalize hm : xs.length = m at *
    cases h1 with
    | sliceEx _ _ _ l hl' =>
      have hlt := (hR.blk id _ l hb hl' rfl).lt
      have hxl : (xs.map bstr).length = m := by simp [hm]
      have key := join_c l.blk (l.off + 0) m (xs.map bstr) (bstr sep) w (by
        intro j x hj
        rw [List.getElem?_map] at hj
        obtain ⟨y, hy, rfl⟩ := Option.map_eq_some_iff.1 hj
        obtain ⟨cv, h7, h8, _⟩ := (hR.blk id _ l hb hl' rfl).cell (k := j) (v := .string (bstr y)) (by simp [strs, hy])
        rw [h8.string_inv] at h7
        rw [Nat.add_zero]; exact h7) hlt (by omega) (by omega) (by simpa [Function.comp_def, bstr_list] using hs)
      rw [hxl] at key
      refine key.mono ?_
      rintro e W ⟨rfl, hbel⟩
      refine ⟨ρ, H, _, _, rfl, List.prefix_refl _, hR.afterB hbel, .string _, ?_⟩
      simpa [Function.comp_def, bstr_list, bstr] using h
end Go.Proofs.YtkimaohcmcfcnaaDoor
end

section
namespace Go.Ab
open Go.RowKit (Below)

theorem bstr_of (s : ByteArray) : s = bstr s.data.toList := by simp [bstr]

theorem R.ghostAt {B : Nat} {w0 : World} {ρ : Rho} {H : Heap} {w : World} (h : R B w0 ρ H w) (N : Nat) : R B w0 (ρ ++ [⟨N, 0, 0⟩]) (H ++ [⟨[], false, false⟩]) w := by
  have hpre : ρ <+: ρ ++ [(⟨N, 0, 0⟩ : Loc)] := List.prefix_append _ _
  have getH : ∀ (i : Nat) (b : Blk), (H ++ [(⟨[], false, false⟩ : Blk)])[i]? = some b -> (H[i]? = some b /\ i < H.length) \/ (i = H.length /\ b = ⟨[], false, false⟩) := by
    intro i b hb
    rcases Nat.lt_or_ge i H.length with hi | hi
    · rw [List.getElem?_append_left hi] at hb; exact .inl ⟨hb, hi⟩
    · rw [List.getElem?_append_right hi] at hb
      cases hk : i - H.length with
      | zero => rw [hk] at hb; simp at hb; exact .inr ⟨by omega, hb.symm⟩
      | succ k => rw [hk] at hb; simp at hb
  have getρ : ∀ (i : Nat) (l : Loc), (ρ ++ [(⟨N, 0, 0⟩ : Loc)])[i]? = some l -> (i < H.length -> ρ[i]? = some l) /\ (i = H.length -> l = ⟨N, 0, 0⟩) := by
    intro i l hl
    refine ⟨fun hi => ?_, fun hi => ?_⟩
    · rw [List.getElem?_append_left (by rw [h.len]; exact hi)] at hl; exact hl
    · rw [List.getElem?_append_right (by rw [h.len]; omega), h.len, hi] at hl; simpa using hl.symm
  refine ⟨by simp [h.len], h.below, h.base, h.fixed, ?_, ?_, ?_⟩
  · intro i b l hb hl hv
    rcases getH i b hb with ⟨hb', hi⟩ | ⟨hi, rfl⟩
    · exact (h.blk i b l hb' ((getρ i l hl).1 hi) hv).kept hpre rfl
    · cases hv
  · intro i j b c l m hij hb hc hl hm hbl hcl hbo
    rcases getH i b hb with ⟨hb', hi⟩ | ⟨hi, rfl⟩
    · rcases getH j c hc with ⟨hc', hj⟩ | ⟨hj, rfl⟩
      · exact h.apart i j b c l m hij hb' hc' ((getρ i l hl).1 hi) ((getρ j m hm).1 hj) hbl hcl hbo
      · cases hcl
    · cases hbl
  · intro i b l hb hl hd ho
    rcases getH i b hb with ⟨hb', hi⟩ | ⟨hi, rfl⟩
    · exact h.ghost i b l hb' ((getρ i l hl).1 hi) hd ho
    · rw [(getρ i l hl).2 hi]

theorem R.fixedInt {B : Nat} {w0 : World} {ρ : Rho} {H : Heap} {w : World} (h : R B w0 ρ H w) : ∃ m, w.cell? ⟨0, 0, none⟩ = some (.int .i64 m) := by
  obtain ⟨hB, ⟨m, hm⟩, _⟩ := h.fixed
  exact ⟨m, (h.below.cell (p := ⟨0, 0, none⟩) (show 0 < B by omega)).trans hm⟩
theorem R.fixedErr {B : Nat} {w0 : World} {ρ : Rho} {H : Heap} {w : World} (h : R B w0 ρ H w) : ErrCell w 1 /\ ErrCell w 2 := by
  obtain ⟨hB, _, ⟨e1, h1, h1'⟩, e2, h2, h2'⟩ := h.fixed
  exact ⟨⟨e1, (h.below.cell (p := ⟨1, 0, none⟩) (show 1 < B by omega)).trans h1, h1'⟩, e2, (h.below.cell (p := ⟨2, 0, none⟩) (show 2 < B by omega)).trans h2, h2'⟩
theorem R.drewN {B : Nat} {w0 : World} {ρ : Rho} {H : Heap} {w : World} (h : R B w0 ρ H w) : ∀ n, R B w0 ρ H (w.drewN n)
  | 0 => h
  | n + 1 => (R.drewN h n).drew
end Go.Ab

namespace Go.Proofs.YtkimaohcmcfcnaaDoor
open Go.Ab

theorem cut_ok {H : Heap} {s : List UInt8} {sep : List UInt8} (hs : s.length <= 1048576) (Post : Value -> Heap -> Prop)
    (h : Post (.tuple #[.string (bstr (Lib.cut s sep).1), .string (bstr (Lib.cut s sep).2.1), .bool (Lib.cut s sep).2.2]) H) : ACalls Tryd.prog 22 [.string (bstr s), .string (bstr sep)] H Post := by
  refine ⟨⟨_, Tryd.func22, rfl, rfl⟩, ?_⟩
  intro B w0 ρ w cargs hR hv
  obtain ⟨c, cs, rfl, h1, h2⟩ := hv.cons_inv
  obtain ⟨c2, cs2, rfl, h3, h4⟩ := h2.cons_inv
  obtain rfl := h4.nil_inv
  rw [h1.string_inv, h3.string_inv]
  obtain ⟨m, hm⟩ := hR.fixedInt
  refine (cut_c (bstr s) (bstr sep) m w (by rw [bstr_size]; omega) hm).mono ?_
  rintro e W ⟨rfl, n, rfl⟩
  refine ⟨ρ, H, _, _, rfl, List.prefix_refl _, hR.drewN n, ?_, h⟩
  simp only [bstr_list]
  exact VR.tuple_of (VRs.cons (.string _) (VRs.cons (.string _) (VRs.cons (.bool _) (VRs.nil _))))

def splitL (s sep : List UInt8) : List (List UInt8) := Lib.splitK sep 0 (Lib.count s sep) s

theorem split_ok {H : Heap} {s : List UInt8} {sep : List UInt8} (hs : s.length <= 1048576) (h1' : 1 <= sep.length) (hn : (splitL s sep).length = Lib.count s sep + 1) (Post : Value -> Heap -> Prop)
    (h : ∀ H', H <+: H' -> H'[H.length]? = some ⟨strs (splitL s sep), true, true⟩ -> Post (.slice (some ⟨H.length, 0, none⟩) (splitL s sep).length (splitL s sep).length) H') : ACalls Tryd.prog 24 [.string (bstr s), .string (bstr sep)] H Post := by
  refine ⟨⟨_, Tryd.func24, rfl, rfl⟩, ?_⟩
  intro B w0 ρ w cargs hR hv
  obtain ⟨c, cs, rfl, h1, h2⟩ := hv.cons_inv
  obtain ⟨c2, cs2, rfl, h3, h4⟩ := h2.cons_inv
  obtain rfl := h4.nil_inv
  rw [h1.string_inv, h3.string_inv]
  obtain ⟨m, hm⟩ := hR.fixedInt
  refine (split_c (bstr s) (bstr sep) m w (by rw [bstr_size]; omega) hm (by rw [bstr_size]; exact h1')).mono ?_
  rintro e W ⟨rfl, rfl⟩
  have hc : Lib.countB (bstr s) (bstr sep) = Lib.count s sep := by simp [Lib.countB, bstr_list]
  have hd : (Lib.splitB (bstr sep) 0 (Lib.countB (bstr s) (bstr sep)) (bstr s)).map Value.string = strs (splitL s sep) := by
    have := Lib.splitB_data (bstr sep) 0 (Lib.countB (bstr s) (bstr sep)) (bstr s)
    rw [bstr_list, bstr_list, hc] at this
    unfold splitL strs
    rw [<- this, hc, List.map_map]
    apply List.map_congr_left
    intro x _
    simp [bstr]
  rw [hd, hc]
  have hR2 := hR.alloc (strs (splitL s sep)) (strs (splitL s sep)).toArray 9 (by
    intro k v hk
    have hv : ∃ x, v = .string x := by
      obtain ⟨y, _, rfl⟩ := List.mem_map.1 (List.mem_of_getElem? hk)
      exact ⟨_, rfl⟩
    obtain ⟨x, rfl⟩ := hv
    exact ⟨rfl, _, by simpa using hk, .string _⟩)
  refine ⟨_, _, .slice (some ⟨H.length, 0, none⟩) (splitL s sep).length (splitL s sep).length, _, rfl, List.prefix_append _ _, hR2, ?_, h _ (List.prefix_append _ _) (by simp)⟩
  rw [hn]
  refine .sliceEx _ _ _ ⟨w.heap.size, 0, (strs (splitL s sep)).toArray.size⟩ ?_
  rw [List.getElem?_append_right (by rw [hR.len]; exact Nat.le_refl _), hR.len]; simp

theorem parse_ok {H : Heap} {s : List UInt8} (hs : s.length <= 1048576) (Post : Value -> Heap -> Prop)
    (h0 : ∀ v, Lib.parseIntB 64 s = .ok v -> Post (.tuple #[.int .i64 v, .nilIface]) H)
    (h1 : (∀ v, Lib.parseIntB 64 s ≠ .ok v) -> ∀ x, Post (.tuple #[.int .i64 x, .iface 86 (.pointer (some ⟨H.length, 0, none⟩))]) (H ++ [⟨[], false, false⟩])) :
    ACalls Tryd.prog 23 [.string (bstr s), .int .i64 10, .int .i64 64] H Post := by
  refine ⟨⟨_, Tryd.func23, rfl, rfl⟩, ?_⟩
  intro B w0 ρ w cargs hR hv
  obtain ⟨c, cs, rfl, g1, g2⟩ := hv.cons_inv
  obtain ⟨c2, cs2, rfl, g3, g4⟩ := g2.cons_inv
  obtain ⟨c3, cs3, rfl, g5, g6⟩ := g4.cons_inv
  obtain rfl := g6.nil_inv
  rw [g1.string_inv, g3.int_inv, g5.int_inv]
  have err : ∀ (N : Nat) (x : Int) (W : World), Go.RowKit.Below w.heap.size w W -> (∀ v, Lib.parseIntB 64 s ≠ .ok v) ->
      ∃ ρ' H' v cv, Ending.returned (Value.tuple #[.int .i64 x, .iface 86 (.pointer (some ⟨N, 0, none⟩))]) = .returned cv /\ ρ <+: ρ' /\ R B w0 ρ' H' W /\ VR ρ' v cv /\ Post v H' := by
    intro N x W hbel hno
    refine ⟨_, _, .tuple #[.int .i64 x, .iface 86 (.pointer (some ⟨H.length, 0, none⟩))], _, rfl, List.prefix_append _ _, (hR.afterB hbel).ghostAt N, ?_, h1 hno x⟩
    refine VR.tuple_of (VRs.cons (.int _ _) (VRs.cons (.iface _ _ _ ?_) (VRs.nil _)))
    have := VR.ptr (ρ := ρ ++ [⟨N, 0, 0⟩]) H.length 0 ⟨N, 0, 0⟩ (by rw [List.getElem?_append_right (by rw [hR.len]; exact Nat.le_refl _), hR.len]; simp)
    simpa using this
  obtain ⟨⟨e1, hv1, hev1⟩, e2, hv2, hev2⟩ := hR.fixedErr
  have hl : (bstr s).data.toList = s := bstr_list s
  by_cases hok : ∃ v, Lib.parseIntB 64 s = .ok v
  · obtain ⟨v, hp⟩ := hok
    refine (parseOk_c (bstr s) (by rw [bstr_size]; omega) v (by rw [hl]; exact hp) w).mono ?_
    rintro e W ⟨rfl, hW⟩
    have hR2 : R B w0 ρ H W := by
      rcases hW with rfl | ⟨t, rfl⟩
      · exact hR
      · exact hR.afterB (Lib.bytesWorld_below _ _ _)
    exact ⟨ρ, H, _, _, rfl, List.prefix_refl _, hR2, VR.tuple_of (VRs.cons (.int _ _) (VRs.cons .nilIface (VRs.nil _))), h0 v hp⟩
  · have hno : ∀ v, Lib.parseIntB 64 s ≠ .ok v := fun v e => hok ⟨v, e⟩
    refine (parseNone_c (bstr s) (by rw [bstr_size]; omega) (by rw [hl]; exact hno) e1 e2 w hv1 hev1 hv2 hev2).mono ?_
    rintro e W ⟨N, x, rfl, hbel⟩
    exact err N x W hbel hno
end Go.Proofs.YtkimaohcmcfcnaaDoor
end

section
namespace Go.Proofs.YtkimaohcmcfcnaaDoor
open Go.Ab

theorem _root_.Go.Ab.Holds.keepS {H H' : Heap} {i : Nat} {cs : List Value} (h : Holds H i cs) {S : Nat -> Prop} (hs : Same S H H') (hi : ¬ S i) : Holds H' i cs := by
  obtain ⟨o, h⟩ := h; exact ⟨o, hs.get h hi⟩
theorem _root_.Go.Ab.Holds.sys {H : Heap} {i : Nat} {p : Int} {u : Value} (h : Holds H i [.int .i64 p, u]) : cellsAt H i 0 2 = some [.int .i64 p, u] /\ cellsAt H i 0 1 = some [.int .i64 p] /\ cellsAt H i 1 1 = some [u] :=
  ⟨by simpa using h.cells (n := 2) (o := 0) (by simp), h.cell rfl, h.cell rfl⟩
theorem _root_.Go.Ab.Holds.last (H : Heap) (cs : List Value) : Holds (H ++ [⟨cs, true, true⟩]) H.length cs := ⟨true, by simp⟩

def nums (bs : List Bk) : List Int := bs.flatMap fun b => [b.a, b.b, b.c]
theorem tri_nums (bs : List Bk) : tri bs = ints (nums bs) := by
  induction bs with
  | nil => rfl
  | cons b bs ih => rw [tri_cons, ih]; simp [nums, ints, Bk.cells]
theorem nums_length (bs : List Bk) : (nums bs).length = bs.length * 3 := by
  have := tri_length bs; rw [tri_nums, ints_length] at this; exact this

theorem mark_set {k : Int} {ys : List Int} {m : Nat} (h : m < ys.length) : (upFrom k m ++ ys.drop m).set m (k + m) = upFrom k (m + 1) ++ ys.drop (m + 1) := by
  rw [List.set_append_right _ _ (by rw [upFrom_length]; exact Nat.le_refl _), upFrom_length, Nat.sub_self, List.drop_eq_getElem_cons h, List.set_cons_zero, <- upFrom_append k m 1]
  simp [upFrom]

theorem mark_store {H : Heap} {i : Nat} {k : Int} {ys : List Int} {m : Nat} (hm : m < ys.length) (hb : H[i]? = some ⟨ints (upFrom k m ++ ys.drop m), true, true⟩) :
    storeAt H i m [.int .i64 (k + m)] = some (H.set i ⟨ints (upFrom k (m + 1) ++ ys.drop (m + 1)), true, true⟩) := by
  rw [storeAt_of hb rfl rfl (by simp only [ints_length, List.length_append, upFrom_length, List.length_drop, List.length_singleton]; omega) (by simp [Value.oneCell']), over_one (by simp only [ints_length, List.length_append, upFrom_length, List.length_drop]; omega), ints_set, mark_set hm]

theorem markBlockS_ok {H : Heap} {i : Nat} {k : Int} {bs : List Bk} (hu : bs = [] \/ H[i]? = some ⟨tri bs, true, true⟩) (hl : bs.length <= 140737488355328) (hk0 : 0 <= k) (hk : k <= 1000000000) (Post : Value -> Heap -> Prop)
    (h : ∀ H', H'.length = H.length -> Same (fun j => bs ≠ [] /\ j = i) H H' -> At H' i 0 (ints (upFrom k (bs.length * 3))) -> Post (.int .i64 (k + (bs.length * 3 : Nat))) H') :
    ACalls Tryd.prog 26 [lv 3 i 0 bs.length, .int .i64 k] H Post := by
  refine acalls_vc (rs := [.tmp 4]) Tryd.func26 rfl rfl Tryd.ntmps26 rfl rfl ?_
  simp (maxSteps := 1000000) [go_sem]
  have hnl := nums_length bs
  refine AWp.loopVc (fun s : Nat => [(0, lv 3 i 0 bs.length), (1, .int .i64 (k + (s * 3 : Nat))), (5, .int .i64 s)])
    (fun s H' => s <= bs.length /\ H'.length = H.length /\ Same (fun j => bs ≠ [] /\ j = i) H H' /\ (bs ≠ [] -> H'[i]? = some ⟨ints (upFrom k (s * 3) ++ (nums bs).drop (s * 3)), true, true⟩)) (fun s => bs.length - s) 0 ?_ ?_ ?_
  · simp [upF, Fr.get, Up.refl]
  · refine ⟨by omega, rfl, Same.refl _ _, fun hne => ?_⟩
    rw [hu.resolve_left hne, tri_nums]; simp [upFrom]
  · rintro K s H' ⟨hs, hlen, hsame, hc⟩ hK
    by_cases hlt : s < bs.length
    · have hne : bs ≠ [] := by rintro rfl; simp at hlt
      simp (maxSteps := 1000000) [go_sem, hlt]
      refine AWp.loopVc (fun t : Nat => [(0, lv 3 i 0 bs.length), (1, .int .i64 (k + (s * 3 + t : Nat))), (5, .int .i64 s), (6, .int .i64 t)])
        (fun t H2 => t <= 3 /\ H2.length = H.length /\ Same (fun j => bs ≠ [] /\ j = i) H H2 /\ H2[i]? = some ⟨ints (upFrom k (s * 3 + t) ++ (nums bs).drop (s * 3 + t)), true, true⟩) (fun t => 3 - t) 0 ?_ ?_ ?_
      · simp [upF, Fr.get, Up.refl]
      · exact ⟨by omega, hlen, hsame, hc hne⟩
      · rintro K2 t H2 ⟨ht, hlen2, hsame2, hc2⟩ hK2
        by_cases htl : t < 3
        · have htl' : (t : Int) < 3 := by omega
          have hw_t : IntKind.i64.wrap ((t : Int) + 1) = (t : Int) + 1 := i64w (by omega) (by omega)
          have hw2 : IntKind.i64.wrap (k + ((s : Int) * 3 + t) + 1) = k + (s * 3 + (t + 1)) := by rw [i64w (by omega) (by omega)]; omega
          have hst := mark_store (k := k) (ys := nums bs) (by omega) hc2
          have e1 : ((s * 3 + t : Nat) : Int) = s * 3 + t := by omega
          rw [e1] at hst
          simp (maxSteps := 1000000) [go_sem, hlt, htl, htl', hst, hw_t, hw2]
          refine hK2 (t + 1) _ _ (by omega) (by simp [upF, Fr.get, Up.refl]) ⟨by omega, by simp [hlen2], hsame2.trans ⟨by simp, fun j hj hjs => List.getElem?_set_ne (fun e => hjs ⟨hne, e.symm⟩)⟩, ?_⟩
          rw [List.getElem?_set_self (List.getElem?_eq_some_iff.1 hc2).1]; rfl
        · have : t = 3 := by omega
          subst this
          have hw_s : IntKind.i64.wrap ((s : Int) + 1) = (s : Int) + 1 := i64w (by omega) (by omega)
          simp (maxSteps := 1000000) [go_sem, hw_s]
          refine hK (s + 1) _ _ (by omega) ?_ ⟨by omega, hlen2, hsame2, fun _ => ?_⟩
          · have e : k + ((s : Int) * 3 + 3) = k + ((s : Int) + 1) * 3 := by omega
            simp [upF, Fr.get, Up.refl, e]
          · rw [Nat.add_mul]; exact hc2
    · have : s = bs.length := by omega
      subst this
      simp (maxSteps := 1000000) [go_sem]
      have := h H' hlen hsame ?_
      · simpa using this
      · by_cases hne : bs = []
        · subst hne; exact .inl rfl
        · have := hc hne
          rw [List.drop_eq_nil_of_le (by omega), List.append_nil] at this
          exact Holds.at ⟨true, this⟩

theorem heldBlockS_ok {H : Heap} {i o : Nat} {k : Int} {n : Nat} (hu : At H i o (ints (upFrom k (n * 3)))) (hl : n <= 140737488355328) (hk0 : 0 <= k) (hk : k <= 1000000000) (Post : Value -> Heap -> Prop) (h : Post (.int .i64 (k + (n * 3 : Nat))) H) :
    ACalls Tryd.prog 27 [lv 3 i o n, .int .i64 k] H Post := by
  refine acalls_vc (rs := [.tmp 4]) Tryd.func27 rfl rfl Tryd.ntmps27 rfl rfl ?_
  simp (maxSteps := 1000000) [go_sem]
  refine AWp.loopVc (fun s : Nat => [(0, lv 3 i o n), (1, .int .i64 (k + (s * 3 : Nat))), (5, .int .i64 s)])
    (fun s H' => s <= n /\ H' = H) (fun s => n - s) 0 ?_ ?_ ?_
  · simp [upF, Fr.get, Up.refl]
  · simp
  · rintro K s H' ⟨hs, rfl⟩ hK
    by_cases hlt : s < n
    · simp (maxSteps := 1000000) [go_sem, hlt]
      refine AWp.loopVc (fun t : Nat => [(0, lv 3 i o n), (1, .int .i64 (k + (s * 3 + t : Nat))), (5, .int .i64 s), (6, .int .i64 t)])
        (fun t H2 => t <= 3 /\ H2 = H') (fun t => 3 - t) 0 ?_ ?_ ?_
      · simp [upF, Fr.get, Up.refl]
      · simp
      · rintro K2 t H2 ⟨ht, rfl⟩ hK2
        by_cases htl : t < 3
        · have htl' : (t : Int) < 3 := by omega
          have hw_t : IntKind.i64.wrap ((t : Int) + 1) = (t : Int) + 1 := i64w (by omega) (by omega)
          have hw2 : IntKind.i64.wrap (k + ((s : Int) * 3 + t) + 1) = k + (s * 3 + (t + 1)) := by rw [i64w (by omega) (by omega)]; omega
          have c1 := hu.cell (k := s * 3 + t) (v := .int .i64 (k + (s * 3 + t : Nat))) (by rw [ints_get, upFrom_get (by omega)]; rfl)
          rw [<- Nat.add_assoc] at c1
          have e1 : ((s * 3 + t : Nat) : Int) = s * 3 + t := by omega
          rw [e1] at c1
          simp (maxSteps := 1000000) [go_sem, hlt, htl, htl', c1, hw_t, hw2]
          exact hK2 (t + 1) _ _ (by omega) (by simp [upF, Fr.get, Up.refl]) ⟨by omega, rfl⟩
        · have : t = 3 := by omega
          subst this
          have hw_s : IntKind.i64.wrap ((s : Int) + 1) = (s : Int) + 1 := i64w (by omega) (by omega)
          simp (maxSteps := 1000000) [go_sem, hw_s]
          refine hK (s + 1) _ _ (by omega) ?_ ⟨by omega, rfl⟩
          have e : k + ((s : Int) * 3 + 3) = k + ((s : Int) + 1) * 3 := by omega
          simp [upF, Fr.get, Up.refl, e]
    · have : s = n := by omega
      subst this
      simp (maxSteps := 1000000) [go_sem]
      simpa using h

theorem markSystem_ok {H : Heap} {i : Nat} {p k : Int} {bs : List Bk} (hu : bs = [] \/ H[i]? = some ⟨tri bs, true, true⟩) (hl : bs.length <= 140737488355328) (hk0 : 0 <= k) (hk : k <= 1000000000) (Post : Value -> Heap -> Prop)
    (h : ∀ H', Same (fun j => bs ≠ [] /\ j = i) H H' -> At H' i 0 (ints (upFrom k (bs.length * 3))) -> Post (.int .i64 (k + (bs.length * 3 : Nat))) H') :
    ACalls Tryd.prog 12 [sysV p (lv 3 i 0 bs.length), .int .i64 k] H Post := by
  refine acalls_vc (rs := [.tmp 4]) Tryd.func12 rfl rfl Tryd.ntmps12 rfl rfl ?_
  simp (maxSteps := 1000000) [go_sem, sysV]
  refine markBlockS_ok ?_ hl hk0 hk _ ?_
  · exact hu.imp (fun h => h) fun hb => pget (List.prefix_append _ _) hb
  intro H' _ hs ha
  simp (maxSteps := 1000000) [go_sem]
  have := h H' ((Same.of_prefix (List.prefix_append _ _)).trans hs) ha
  simpa using this

theorem heldSystem_ok {H : Heap} {i o : Nat} {p k : Int} {n : Nat} (hu : At H i o (ints (upFrom k (n * 3)))) (hl : n <= 140737488355328) (hk0 : 0 <= k) (hk : k <= 1000000000) (Post : Value -> Heap -> Prop) (h : ∀ H', H <+: H' -> Post (.int .i64 (k + (n * 3 : Nat))) H') :
    ACalls Tryd.prog 13 [sysV p (lv 3 i o n), .int .i64 k] H Post := by
  refine acalls_vc (rs := [.tmp 4]) Tryd.func13 rfl rfl Tryd.ntmps13 rfl rfl ?_
  simp (maxSteps := 1000000) [go_sem, sysV]
  refine heldBlockS_ok (hu.pre (List.prefix_append _ _)) hl hk0 hk _ ?_
  have hneg : decide (k + (n * 3 : Nat) < 0) = false := by simp; omega
  have := h _ (List.prefix_append H [⟨[.int .i64 p, lv 3 i o n], true, true⟩])
  simp only [Int.natCast_mul, Int.cast_ofNat_Int] at this hneg ⊢
  simp (maxSteps := 1000000) [go_sem, hneg]
  exact this

end Go.Proofs.YtkimaohcmcfcnaaDoor
end

section
namespace Go.Ab

def Bl (e : Nat) (H H' : Heap) (id : Nat) (cs : List Value) (n : Nat) : Prop := H <+: H' /\ OL e H' id cs n /\ H.length <= id
theorem Bl.nil (e : Nat) (H : Heap) : Bl e H (H ++ [⟨[], true, true⟩]) H.length [] 0 := ⟨List.prefix_append _ _, ⟨by simp, .inr (by simp)⟩, Nat.le_refl _⟩
theorem Bl.push {e : Nat} {H H' : Heap} {id n : Nat} {cs xs : List Value} (h : Bl e H H' id cs n) (he : 0 < e) (hx : xs.length = e) :
    cellsAt (H' ++ [⟨xs, true, true⟩]) H'.length 0 e = some xs /\ ∃ H3, appendH (H' ++ [⟨xs, true, true⟩]) e (lv e id 0 n) 1 xs = some (lv e (H'.length + 1) 0 (n + 1), H3) /\ Bl e H H3 (H'.length + 1) (cs ++ xs) (n + 1) := by
  obtain ⟨h1, H3, h2, h3, h4, h5⟩ := h.2.1.push he hx
  refine ⟨h1, H3, h2, ((Same.of_prefix h.1).trans h4).prefix (by have := h.2.2; omega), h3, ?_⟩
  have := h.1.length_le
  omega

end Go.Ab
namespace Go.Proofs.YtkimaohcmcfcnaaDoor
open Go.Ab

end Go.Proofs.YtkimaohcmcfcnaaDoor
end

section
namespace Go.Ab

def pcs (c : UInt8) : List UInt8 -> List (List UInt8)
  | [] => [[]]
  | b :: l => if b = c then [] :: pcs c l else match pcs c l with
    | [] => [[b]]
    | p :: ps => (b :: p) :: ps
theorem pcs_miss {c : UInt8} : ∀ {s : List UInt8}, c ∉ s -> pcs c s = [s]
  | [], _ => rfl
  | b :: l, h => by
    have h1 : b ≠ c := fun e => h (by simp [e])
    have h2 : c ∉ l := fun e => h (by simp [e])
    rw [pcs, if_neg h1, pcs_miss h2]
theorem pcs_hit {c : UInt8} : ∀ {a b : List UInt8}, c ∉ a -> pcs c (a ++ c :: b) = a :: pcs c b
  | [], b, _ => by rw [List.nil_append, pcs, if_pos rfl]
  | x :: a, b, h => by
    have h1 : x ≠ c := fun e => h (by simp [e])
    have h2 : c ∉ a := fun e => h (by simp [e])
    rw [List.cons_append, pcs, if_neg h1, pcs_hit h2]
theorem pcs_pos (c : UInt8) (s : List UInt8) : 0 < (pcs c s).length := by
  cases s with
  | nil => simp [pcs]
  | cons b l =>
    rw [pcs]
    split
    · simp
    · split <;> simp
theorem bstr_get (s : List UInt8) (i : Nat) : (bstr s)[i]? = s[i]? := by
  unfold bstr
  by_cases h : i < s.length
  · have h' : i < (ByteArray.mk s.toArray).size := by simpa [ByteArray.size] using h
    rw [getElem?_pos _ i h', List.getElem?_eq_getElem h]
    rfl
  · have h' : ¬ i < (ByteArray.mk s.toArray).size := by simpa [ByteArray.size] using h
    rw [getElem?_neg _ i h', List.getElem?_eq_none (by omega)]
theorem bstr_idx (s : List UInt8) (i : Nat) (h : i < (bstr s).size) : (bstr s)[i] = s[i]'(by rw [bstr_size] at h; exact h) := by
  have := bstr_get s i
  rw [getElem?_pos _ i h, List.getElem?_eq_getElem (by rw [bstr_size] at h; exact h)] at this
  exact Option.some.inj this
theorem bstr_extract (s : List UInt8) (a b : Nat) : (bstr s).extract a b = bstr ((s.take b).drop a) := by
  apply ByteArray.ext
  simp [bstr, ByteArray.data_extract, List.drop_take]
end Go.Ab

namespace Go.Proofs.YtkimaohcmcfcnaaDoor
open Go.Ab

theorem l01Split_ok {H : Heap} {s : List UInt8} {c : UInt8} (hs : s.length <= 1048576) (Post : Value -> Heap -> Prop)
    (h : ∀ H' id, H <+: H' -> H.length <= id -> OL 1 H' id (strs (pcs c s)) (pcs c s).length -> Post (lv 1 id 0 (pcs c s).length) H') : ACalls Tryd.prog 39 [.string (bstr s), .int .u8 c.toNat] H Post := by
  refine acalls_vc (rs := [.tmp 4]) Tryd.func39 rfl rfl Tryd.ntmps39 rfl rfl ?_
  simp (maxSteps := 1000000) [go_sem]
  refine AWp.loopVc (St := Nat × Nat × Nat × List (List UInt8)) (fun q => [(0, .string (bstr s)), (1, .int .u8 c.toNat), (5, lv 1 q.2.2.1 0 q.2.2.2.length), (6, .int .i64 q.1), (7, .int .i64 q.2.1)])
    (fun q H' => q.1 <= q.2.1 /\ q.2.1 <= s.length /\ c ∉ (s.take q.2.1).drop q.1 /\ pcs c s = q.2.2.2 ++ pcs c (s.drop q.1) /\ q.2.2.2.length <= q.1 /\ Bl 1 H H' q.2.2.1 (strs q.2.2.2) q.2.2.2.length) (fun q => s.length - q.2.1) (0, 0, H.length, []) ?_ ?_ ?_
  · simp [upF, Fr.get, Up.refl, Up.ex0]
  · exact ⟨by simp, by simp, by simp, by simp, by simp, Bl.nil 1 H⟩
  rintro K ⟨a, i, id, out⟩ H' ⟨hai, hin, hno, hpc, hol, hbl⟩ hK
  simp only at hai hin hno hpc hol hbl
  have hsz := bstr_size s
  by_cases hlt : i < s.length
  · have hg : (bstr s)[i]? = some s[i] := by rw [bstr_get]; exact List.getElem?_eq_getElem hlt
    have hw_i : IntKind.i64.wrap ((i : Int) + 1) = (i : Int) + 1 := i64w (by omega) (by omega)
    have hx : (s.take (i + 1)).drop a = (s.take i).drop a ++ [s[i]] := by
      rw [List.take_succ_eq_append_getElem hlt, List.drop_append_of_le_length (by rw [List.length_take]; omega)]
    by_cases hc : s[i] = c
    · have hc' : ((s[i].toNat : Int) = (c.toNat : Int)) := by rw [hc]
      obtain ⟨hsrc, H3, hap, hbl3⟩ := hbl.push (xs := [.string (bstr ((s.take i).drop a))]) (by omega) rfl
      have hdr : s.drop a = (s.take i).drop a ++ c :: s.drop (i + 1) := by
        have e1 : s = s.take i ++ s[i] :: s.drop (i + 1) := by rw [<- List.drop_eq_getElem_cons hlt, List.take_append_drop]
        conv => lhs; rw [e1]
        rw [List.drop_append_of_le_length (by rw [List.length_take]; omega), hc]
      have hpc2 : pcs c s = (out ++ [(s.take i).drop a]) ++ pcs c (s.drop (i + 1)) := by rw [hpc, hdr, pcs_hit hno]; simp
      have hst : strs out ++ [.string (bstr ((s.take i).drop a))] = strs (out ++ [(s.take i).drop a]) := by simp [strs]
      rw [hst] at hbl3
      simp (maxSteps := 1000000) [go_sem, hsz, hlt, hg, hc', hc, bstr_idx, bstr_extract, hw_i, hsrc, hap]
      refine andK_intro ⟨hai, by omega⟩ (andK_intro ⟨by omega, by omega⟩ ?_)
      have hol' : (out ++ [(s.take i).drop a]).length = out.length + 1 := by simp
      refine hK (i + 1, i + 1, H'.length + 1, out ++ [(s.take i).drop a]) _ _ (by simp only; omega) (by simp [upF, Fr.get, Up.refl]) ⟨by simp only; omega, by simp only; omega, ?_, hpc2, by simp only; omega, by rw [<- hol'] at hbl3; exact hbl3⟩
      simp only
      rw [List.drop_eq_nil_of_le (by rw [List.length_take]; omega)]; simp
    · have hc' : ¬ ((s[i].toNat : Int) = (c.toNat : Int)) := fun e => hc (UInt8.toNat_inj.1 (by omega))
      have hcb : ((s[i].toNat : Int) == (c.toNat : Int)) = false := by simpa using hc'
      simp (maxSteps := 1000000) [go_sem, hsz, hlt, hg, hcb, bstr_idx, hw_i]
      refine hK (a, i + 1, id, out) _ _ (by simp only; omega) (by simp [upF, Fr.get, Up.refl]) ⟨by simp only; omega, by simp only; omega, ?_, hpc, hol, hbl⟩
      simp only
      rw [hx]
      intro hm
      rcases List.mem_append.1 hm with hm | hm
      · exact hno hm
      · have e : c = s[i] := by simpa using hm
        exact hc e.symm
  · obtain rfl : i = s.length := by omega
    rw [List.take_length] at hno
    obtain ⟨hsrc, H3, hap, hbl3⟩ := hbl.push (xs := [.string (bstr (s.drop a))]) (by omega) rfl
    simp (maxSteps := 1000000) [go_sem, hsz, bstr_extract, hsrc, hap]
    have hpe : pcs c s = out ++ [s.drop a] := by rw [hpc, pcs_miss hno]
    have hpl : (pcs c s).length = out.length + 1 := by rw [hpe]; simp
    have hst : strs out ++ [.string (bstr (s.drop a))] = strs (pcs c s) := by rw [hpe]; simp [strs]
    rw [hst, <- hpl] at hbl3
    refine andK_intro (by omega) (andK_intro ⟨by omega, by omega⟩ ?_)
    rw [<- hpl]
    exact h H3 _ hbl3.1 hbl3.2.2 hbl3.2.1
end Go.Proofs.YtkimaohcmcfcnaaDoor
end

section
namespace Go.Ab

def isDig (d : UInt8) : Bool := decide (48 <= d.toNat) && decide (d.toNat <= 57)
def numV (s : List UInt8) : Nat := s.foldl (fun n d => n * 10 + (d.toNat - 48)) 0
theorem numV_snoc (s : List UInt8) (d : UInt8) : numV (s ++ [d]) = numV s * 10 + (d.toNat - 48) := by simp [numV]
def numBad (s : List UInt8) : Prop := s.length = 0 \/ 9 < s.length \/ (1 < s.length /\ s[0]? = some 48)
instance (s : List UInt8) : Decidable (numBad s) := by unfold numBad; infer_instance
def numB (s : List UInt8) : Int := if numBad s then -1 else if s.all isDig then numV s else -1
theorem numV_lt (s : List UInt8) (h : s.all isDig = true) : ∀ k, numV (s.take k) < 10 ^ k := by
  intro k
  induction k with
  | zero => simp [numV]
  | succ k ih =>
    by_cases hk : k < s.length
    · have hd := List.all_eq_true.1 h s[k] (List.getElem_mem hk)
      simp only [isDig, Bool.and_eq_true, decide_eq_true_eq] at hd
      rw [List.take_succ_eq_append_getElem hk, numV_snoc, Nat.pow_succ]
      omega
    · rw [List.take_of_length_le (by omega)]
      rw [List.take_of_length_le (by omega)] at ih
      rw [Nat.pow_succ]; omega
end Go.Ab

namespace Go.Proofs.YtkimaohcmcfcnaaDoor
open Go.Ab

theorem l01Number_ok {H : Heap} {s : List UInt8} (hs : s.length <= 1048576) (Post : Value -> Heap -> Prop) (h : Post (.int .i64 (numB s)) H) : ACalls Tryd.prog 40 [.string (bstr s)] H Post := by
  refine acalls_vc (rs := [.tmp 2]) Tryd.func40 rfl rfl Tryd.ntmps40 rfl rfl ?_
  have hsz := bstr_size s
  by_cases hb : numBad s
  · have e : numB s = -1 := by simp [numB, hb]
    rw [e] at h
    rcases Nat.eq_zero_or_pos s.length with h0 | h0
    · simp (maxSteps := 1000000) [go_sem, undef, hsz, h0]
      exact h
    · have h0' : ((s.length : Int) == 0) = false := beq_eq_false_iff_ne.2 (by omega)
      rcases Nat.lt_or_ge 9 s.length with h9 | h9
      · have h9' : (9 : Int) < s.length := by omega
        simp (maxSteps := 1000000) [go_sem, undef, hsz, h0', h9, h9']
        exact h
      · have h9' : ¬ ((9 : Int) < s.length) := by omega
        obtain ⟨h1, hc⟩ : 1 < s.length /\ s[0]? = some 48 := by
          rcases hb with hb | hb | hb
          · omega
          · omega
          · exact hb
        have h1' : (1 : Int) < s.length := by omega
        have hc' : s[0] = 48 := by
          rw [List.getElem?_eq_getElem h0] at hc
          exact Option.some.inj hc
        simp (maxSteps := 1000000) [go_sem, undef, hsz, h0, h0', h9', h1', bstr_idx, hc']
        exact h
  · have e : numB s = if s.all isDig then (numV s : Int) else -1 := by simp [numB, hb]
    have h0 : 0 < s.length := by
      refine Nat.pos_of_ne_zero fun e0 => hb (.inl e0)
    have h9 : s.length <= 9 := by
      refine Nat.le_of_not_lt fun e0 => hb (.inr (.inl e0))
    have h0' : ((s.length : Int) == 0) = false := beq_eq_false_iff_ne.2 (by omega)
    have h9' : ¬ ((9 : Int) < s.length) := by omega
    rcases Nat.lt_or_ge 1 s.length with h1 | h1
    case' inl =>
      have h1' : (1 : Int) < s.length := by omega
      have hc' : ((s[0].toNat : Int) == 48) = false := by
        have : s[0] ≠ 48 := fun e0 => hb (.inr (.inr ⟨h1, by rw [List.getElem?_eq_getElem h0, e0]⟩))
        have h3 : s[0].toNat ≠ 48 := fun e1 => this (UInt8.toNat_inj.1 e1)
        exact beq_eq_false_iff_ne.2 (by omega)
      simp (maxSteps := 1000000) [go_sem, undef, hsz, h0, h0', h9', h1', bstr_idx, hc']
    case' inr =>
      have h1' : ¬ ((1 : Int) < s.length) := by omega
      simp (maxSteps := 1000000) [go_sem, undef, hsz, h0, h0', h9', h1', bstr_idx]
    all_goals
      refine AWp.loopVc (St := Nat) (fun i => [(0, .string (bstr s)), (3, .int .i64 (numV (s.take i))), (4, .int .i64 i)])
        (fun i H' => i <= s.length /\ (s.take i).all isDig = true /\ H' = H) (fun i => s.length - i) 0 ?_ ?_ ?_
      · simp [upF, Fr.get, Up.refl, numV]
      · exact ⟨by simp, by simp, rfl⟩
      rintro K i H' ⟨hi, hd, rfl⟩ hK
      by_cases hlt : i < s.length
      · have hw_i : IntKind.i64.wrap ((i : Int) + 1) = (i : Int) + 1 := i64w (by omega) (by omega)
        have hx : s.take (i + 1) = s.take i ++ [s[i]] := List.take_succ_eq_append_getElem hlt
        have hnv := numV_snoc (s.take i) s[i]
        rw [<- hx] at hnv
        have hbd := numV_lt (s.take i) hd i
        rw [List.take_take, Nat.min_self] at hbd
        have hp9 : 10 ^ i <= 10 ^ 9 := Nat.pow_le_pow_right (by omega) (by omega)
        by_cases hdi : isDig s[i] = true
        · have hdi' := hdi
          simp only [isDig, Bool.and_eq_true, decide_eq_true_eq] at hdi'
          have k1 : ¬ ((s[i].toNat : Int) < 48) := by omega
          have k2 : ¬ ((57 : Int) < s[i].toNat) := by omega
          have k3 := u8w (n := (s[i].toNat : Int) - 48) (by omega)
          have k4 := i64w (n := (s[i].toNat : Int) - 48) (by omega) (by omega)
          have k5 := i64w (n := (numV (s.take i) : Int) * 10) (by omega) (by omega)
          have k6 := i64w (n := (numV (s.take i) : Int) * 10 + ((s[i].toNat : Int) - 48)) (by omega) (by omega)
          have k7 : (numV (s.take i) : Int) * 10 + ((s[i].toNat : Int) - 48) = (numV (s.take (i + 1)) : Int) := by rw [hnv]; omega
          simp (maxSteps := 1000000) [go_sem, undef, hsz, hlt, bstr_idx, k1, k2, k3, k4, k5, k6, hw_i]
          refine hK (i + 1) _ _ (by omega) (by simp [upF, Fr.get, Up.refl, k7]) ⟨by omega, by rw [hx, List.all_append, hd, List.all_cons, hdi]; rfl, rfl⟩
        · have ha : s.all isDig = false := by
            refine Bool.eq_false_iff.2 fun e0 => hdi (List.all_eq_true.1 e0 _ (List.getElem_mem hlt))
          rw [e, ha] at h
          simp only [isDig, Bool.and_eq_true, decide_eq_true_eq, Decidable.not_and_iff_or_not] at hdi
          rcases Nat.lt_or_ge s[i].toNat 48 with k | k
          · have k1 : ((s[i].toNat : Int) < 48) := by omega
            simp (maxSteps := 1000000) [go_sem, undef, hsz, hlt, bstr_idx, k1]
            simpa using h
          · have k1 : ¬ ((s[i].toNat : Int) < 48) := by omega
            have k2 : ((57 : Int) < s[i].toNat) := by omega
            simp (maxSteps := 1000000) [go_sem, undef, hsz, hlt, bstr_idx, k1, k2]
            simpa using h
      · obtain rfl : i = s.length := by omega
        rw [List.take_length] at hd
        rw [e, hd] at h
        simp (maxSteps := 1000000) [go_sem, undef, hsz]
        simpa using h
end Go.Proofs.YtkimaohcmcfcnaaDoor
end

section
namespace Go.Proofs.YtkimaohcmcfcnaaDoor
open Go.Ab

def Span (a b : Nat) (j : Nat) : Prop := a <= j /\ j < b

def BlocksIn (a b : Nat) (H : Heap) (v : Value) (bs : List Bk) : Prop := ∃ id, OwnBlocks H v id bs /\ (bs ≠ [] -> Span a b id)
def MarkIn (e : Nat) (a b : Nat) (H : Heap) (v : Value) (k : Int) (n : Nat) : Prop := ∃ id, v = lv e id 0 n /\ At H id 0 (ints (upFrom k (n * e))) /\ n <= 140737488355328 /\ (n ≠ 0 -> Span a b id)

theorem BlocksIn.keep {a b : Nat} {H H' : Heap} {v : Value} {bs : List Bk} (h : BlocksIn a b H v bs) {S : Nat -> Prop} (hs : Same S H H') (hd : ∀ j, Span a b j -> ¬ S j) : BlocksIn a b H' v bs := by
  obtain ⟨id, h1, h2⟩ := h
  by_cases hne : bs = []
  · subst hne; exact ⟨id, ⟨h1.1, .inl rfl, h1.2.2⟩, h2⟩
  · exact ⟨id, OwnBlocks.keep h1 hs (hd _ (h2 hne)), h2⟩
theorem MarkIn.keep {e a b : Nat} {H H' : Heap} {v : Value} {k : Int} {n : Nat} (h : MarkIn e a b H v k n) {S : Nat -> Prop} (hs : Same S H H') (hd : ∀ j, Span a b j -> ¬ S j) : MarkIn e a b H' v k n := by
  obtain ⟨id, h1, h2, h3, h4⟩ := h
  refine ⟨id, h1, ?_, h3, h4⟩
  rcases h2 with h0 | h2
  · exact .inl h0
  · by_cases hn : n = 0
    · subst hn; left; simp [upFrom, ints]
    · right
      obtain ⟨blk, hb, hbl, hbn, he⟩ := cellsAt_inv h2
      rw [cellsAt_of (hs.get hb (hd _ (h4 hn))) hbl hbn, <- he]
theorem BlocksIn.pre {a b : Nat} {H H' : Heap} (hp : H <+: H') {v : Value} {bs : List Bk} (h : BlocksIn a b H v bs) : BlocksIn a b H' v bs := h.keep (S := fun _ => False) (Same.of_prefix hp) (fun _ _ h => h)
theorem MarkIn.pre {e a b : Nat} {H H' : Heap} (hp : H <+: H') {v : Value} {k : Int} {n : Nat} (h : MarkIn e a b H v k n) : MarkIn e a b H' v k n := h.keep (S := fun _ => False) (Same.of_prefix hp) (fun _ _ h => h)
theorem BlocksIn.read {a b : Nat} {H : Heap} {v : Value} {bs : List Bk} (h : BlocksIn a b H v bs) : BlocksAt H v bs := by obtain ⟨id, h, _⟩ := h; exact OwnBlocks.read h
theorem BlocksIn.nil (a b : Nat) (H : Heap) : BlocksIn a b H (lv 3 0 0 0) [] := ⟨0, ⟨rfl, .inl rfl, by simp⟩, fun h => absurd rfl h⟩
theorem BlocksIn.wider {a b c : Nat} {H : Heap} {v : Value} {bs : List Bk} (h : BlocksIn a b H v bs) (hc : c <= a) : BlocksIn c b H v bs := by
  obtain ⟨id, h1, h2⟩ := h; exact ⟨id, h1, fun hne => ⟨Nat.le_trans hc (h2 hne).1, (h2 hne).2⟩⟩

theorem markSys_ok {a b : Nat} {H : Heap} {v : Value} {p : Int} {bs : List Bk} {k : Int} (h : BlocksIn a b H v bs) (hk0 : 0 <= k) (hk : k <= 1000000000) (Post : Value -> Heap -> Prop)
    (hP : ∀ H', Same (Span a b) H H' -> MarkIn 3 a b H' v k bs.length -> Post (.int .i64 (k + (bs.length * 3 : Nat))) H') : ACalls Tryd.prog 12 [sysV p v, .int .i64 k] H Post := by
  obtain ⟨id, ⟨rfl, h1, h2⟩, h3⟩ := h
  refine markSystem_ok h1 h2 hk0 hk _ fun H' hs ha => hP H' (hs.mono fun j _ ⟨hne, e⟩ => e ▸ h3 hne) ⟨id, rfl, ha, h2, fun hn => h3 (by rintro rfl; simp at hn)⟩
theorem heldSys_ok {a b : Nat} {H : Heap} {v : Value} {p : Int} {n : Nat} {k : Int} (h : MarkIn 3 a b H v k n) (hk0 : 0 <= k) (hk : k <= 1000000000) (Post : Value -> Heap -> Prop)
    (hP : ∀ H', H <+: H' -> Post (.int .i64 (k + (n * 3 : Nat))) H') : ACalls Tryd.prog 13 [sysV p v, .int .i64 k] H Post := by
  obtain ⟨id, rfl, h1, h2, h3⟩ := h
  exact heldSystem_ok h1 h2 hk0 hk _ hP

end Go.Proofs.YtkimaohcmcfcnaaDoor
end
