/- Part 4 of what the proof of the law FnTradeParts rests on: contracts of functions of the program, for every argument that each names; no statement of the seat is proved here. -/
import Derived.Test.YtkimaohcmcfcnaaGreatFnTradePartsPart3

set_option linter.all false
set_option maxRecDepth 20000
set_option maxHeartbeats 8000000
section
namespace Go.Proofs.YtkimaohcmcfcnaaGreat
open Go.Ab

theorem l01Good_ok {H : Heap} {v : Int} {b : Bk} (Post : Value -> Heap -> Prop) (h : ∀ H', H <+: H' -> Post (.bool (good v b)) H') :
    ACalls Tryz.prog 55 [.int .i64 v, b.val] H Post := by
  refine acalls_vc (rs := [.tmp 4]) Tryz.func55 rfl rfl Tryz.ntmps55 rfl rfl ?_
  obtain ⟨a, b, c⟩ := b
  have h := h _ (List.prefix_append H [⟨[.int .i64 a, .int .i64 b, .int .i64 c], true, true⟩])
  simp only [good] at h
  by_cases h1 : 0 <= a
  · by_cases h2 : a < b
    · by_cases h3 : b < c
      · simp (maxSteps := 1000000) [go_sem, Bk.val, Value.oneCell', h1, h2, h3] at h ⊢
        exact h
      · simp (maxSteps := 1000000) [go_sem, Bk.val, Value.oneCell', h1, h2, h3] at h ⊢
        exact h
    · simp (maxSteps := 1000000) [go_sem, Bk.val, Value.oneCell', h1, h2] at h ⊢
      exact h
  · simp (maxSteps := 1000000) [go_sem, Bk.val, Value.oneCell', h1] at h ⊢
    exact h

theorem l01Before_ok {H : Heap} {b d : Bk} (Post : Value -> Heap -> Prop) (h : ∀ H', H <+: H' -> Post (.bool (before b d)) H') :
    ACalls Tryz.prog 56 [b.val, d.val] H Post := by
  refine acalls_vc (rs := [.tmp 4]) Tryz.func56 rfl rfl Tryz.ntmps56 rfl rfl ?_
  obtain ⟨b1, b2, b3⟩ := b
  obtain ⟨d1, d2, d3⟩ := d
  simp (maxSteps := 1000000) [go_sem, Bk.val, Value.oneCell']
  have h := h _ (List.prefix_append H [⟨[.int .i64 b1, .int .i64 b2, .int .i64 b3], true, true⟩, ⟨[.int .i64 d1, .int .i64 d2, .int .i64 d3], true, true⟩])
  simp only [before] at h
  refine AWp.loopVc (fun s : Nat => [(2, .pointer (some ⟨H.length, 0, none⟩)), (3, .pointer (some ⟨H.length + 1, 0, none⟩)), (5, .int .i64 s)])
    (fun s H' => s <= 3 /\ H' = H ++ [⟨[.int .i64 b1, .int .i64 b2, .int .i64 b3], true, true⟩, ⟨[.int .i64 d1, .int .i64 d2, .int .i64 d3], true, true⟩] /\ [b1, b2, b3].take s = [d1, d2, d3].take s) (fun s => 3 - s) 0 ?_ ?_ ?_
  · simp [upF, Fr.get, Up.refl]
  · simp
  · rintro K s H' ⟨hs, rfl, ht⟩ hK
    have cn : List (Nat × Bool) := []
    have : s = 0 \/ s = 1 \/ s = 2 \/ s = 3 := by omega
    rcases this with rfl | rfl | rfl | rfl
    · simp (maxSteps := 1000000) [go_sem]
      refine AWp.draw mixed [(0, false), (1, false), (2, false), (3, false), (4, false), (5, false), (6, false)] (by kernel_rfl) ?_
      simp (maxSteps := 1000000) [go_sem, i64w (n := 1) (by omega) (by omega)]
      refine condK_intro (fun hne => ?_) (fun heq => ?_)
      · refine AWp.draw mixed [(0, false), (1, false), (2, false), (3, false), (4, false), (5, false), (6, false), (7, false)] (by kernel_rfl) ?_
        simp (maxSteps := 1000000) [go_sem]
        simp at hne; simpa [hne] using h
      · exact hK 1 _ _ (by omega) (by simp [upF, Fr.get, Up.refl]) ⟨by omega, rfl, by simpa using heq⟩
    · simp (maxSteps := 1000000) [go_sem]
      refine AWp.draw mixed [(0, false), (1, false), (2, false), (3, false), (4, false), (5, false), (6, false)] (by kernel_rfl) ?_
      simp (maxSteps := 1000000) [go_sem, i64w (n := 2) (by omega) (by omega)]
      refine condK_intro (fun hne => ?_) (fun heq => ?_)
      · refine AWp.draw mixed [(0, false), (1, false), (2, false), (3, false), (4, false), (5, false), (6, false), (7, false)] (by kernel_rfl) ?_
        simp (maxSteps := 1000000) [go_sem]
        simp at hne ht; simpa [hne, ht] using h
      · exact hK 2 _ _ (by omega) (by simp [upF, Fr.get, Up.refl]) ⟨by omega, rfl, by simp at ht heq; simp [ht, heq]⟩
    · simp (maxSteps := 1000000) [go_sem]
      refine AWp.draw mixed [(0, false), (1, false), (2, false), (3, false), (4, false), (5, false), (6, false)] (by kernel_rfl) ?_
      simp (maxSteps := 1000000) [go_sem, i64w (n := 3) (by omega) (by omega)]
      refine condK_intro (fun hne => ?_) (fun heq => ?_)
      · refine AWp.draw mixed [(0, false), (1, false), (2, false), (3, false), (4, false), (5, false), (6, false), (7, false)] (by kernel_rfl) ?_
        simp (maxSteps := 1000000) [go_sem]
        simp at hne ht; simpa [hne, ht] using h
      · exact hK 3 _ _ (by omega) (by simp [upF, Fr.get, Up.refl]) ⟨by omega, rfl, by simp at ht heq; simp [ht, heq]⟩
    · simp (maxSteps := 1000000) [go_sem]
      simp at ht
      simpa [ht] using h

theorem l01Common_ok {H : Heap} {b d : Bk} (Post : Value -> Heap -> Prop) (h : ∀ H', H <+: H' -> Post (.int .i64 (common b d)) H') :
    ACalls Tryz.prog 71 [b.val, d.val] H Post := by
  refine acalls_vc (rs := [.tmp 4]) Tryz.func71 rfl rfl Tryz.ntmps71 rfl rfl ?_
  obtain ⟨b1, b2, b3⟩ := b
  obtain ⟨d1, d2, d3⟩ := d
  simp (maxSteps := 1000000) [go_sem, Bk.val, Value.oneCell']
  obtain ⟨H1, hH1⟩ : ∃ H1, H1 = H ++ [⟨[.int .i64 b1, .int .i64 b2, .int .i64 b3], true, true⟩, ⟨[.int .i64 d1, .int .i64 d2, .int .i64 d3], true, true⟩] := ⟨_, rfl⟩
  have h := h H1 (by rw [hH1]; exact List.prefix_append _ _)
  have l1 : ∀ i : Nat, i < 3 -> cellsAt H1 H.length i 1 = some [.int .i64 (Bk.nth ⟨b1, b2, b3⟩ i)] := by
    intro i hi
    have : i = 0 \/ i = 1 \/ i = 2 := by omega
    rcases this with rfl | rfl | rfl <;> simp [hH1, go_sem, Bk.nth]
  have l2 : ∀ i : Nat, i < 3 -> cellsAt H1 (H.length + 1) i 1 = some [.int .i64 (Bk.nth ⟨d1, d2, d3⟩ i)] := by
    intro i hi
    have : i = 0 \/ i = 1 \/ i = 2 := by omega
    rcases this with rfl | rfl | rfl <;> simp [hH1, go_sem, Bk.nth]
  rw [<- hH1]
  refine AWp.loopVc (fun s : Nat => [(2, .pointer (some ⟨H.length, 0, none⟩)), (3, .pointer (some ⟨H.length + 1, 0, none⟩)), (5, .int .i64 (cnt ⟨b1, b2, b3⟩ ⟨d1, d2, d3⟩ s 0)), (6, .int .i64 s)])
    (fun s H' => s <= 3 /\ H' = H1) (fun s => 3 - s) 0 ?_ ?_ ?_
  · simp [upF, Fr.get, Up.refl, cnt]
  · simp
  · rintro K s H' ⟨hs, rfl⟩ hK
    by_cases hlt : s < 3
    · have hlt' : (s : Int) < 3 := by omega
      simp (maxSteps := 1000000) [go_sem, hlt, hlt']
      refine AWp.loopVc (fun t : Nat => [(2, .pointer (some ⟨H.length, 0, none⟩)), (3, .pointer (some ⟨H.length + 1, 0, none⟩)), (5, .int .i64 (cnt ⟨b1, b2, b3⟩ ⟨d1, d2, d3⟩ s t)), (6, .int .i64 s), (7, .int .i64 t)])
        (fun t H2 => t <= 3 /\ H2 = H') (fun t => 3 - t) 0 ?_ ?_ ?_
      · simp [upF, Fr.get, Up.refl]
      · simp
      · rintro K2 t H2 ⟨ht, rfl⟩ hK2
        by_cases htl : t < 3
        · have c1 := l1 s hlt
          have c2 := l2 t htl
          have hw : IntKind.i64.wrap ((t : Int) + 1) = (t : Int) + 1 := i64w (by omega) (by omega)
          have hle := cnt_le ⟨b1, b2, b3⟩ ⟨d1, d2, d3⟩ s t
          have hw2 : IntKind.i64.wrap ((cnt ⟨b1, b2, b3⟩ ⟨d1, d2, d3⟩ s t : Int) + 1) = (cnt ⟨b1, b2, b3⟩ ⟨d1, d2, d3⟩ s t : Int) + 1 := i64w (by omega) (by omega)
          have hst := cnt_succ ⟨b1, b2, b3⟩ ⟨d1, d2, d3⟩ s htl
          have htl' : (t : Int) < 3 := by omega
          simp (maxSteps := 1000000) [go_sem, htl, htl']
          refine AWp.draw mixed [(0, false), (1, false), (2, false), (3, false), (4, false), (5, false), (6, false)] (by kernel_rfl) ?_
          simp (maxSteps := 1000000) [go_sem, hlt, htl, hlt', htl', c1, c2, hw, hw2]
          refine condK_intro (fun heq => ?_) (fun hne => ?_)
          · refine hK2 (t + 1) _ _ (by omega) ?_ ⟨by omega, rfl⟩
            have : eq01 (Bk.nth ⟨b1, b2, b3⟩ s) (Bk.nth ⟨d1, d2, d3⟩ t) = 1 := by rw [eq01, if_pos (by simpa using heq)]
            simp [upF, Fr.get, Up.refl, hst, this]
          · refine hK2 (t + 1) _ _ (by omega) ?_ ⟨by omega, rfl⟩
            have : eq01 (Bk.nth ⟨b1, b2, b3⟩ s) (Bk.nth ⟨d1, d2, d3⟩ t) = 0 := by rw [eq01, if_neg (by simpa using hne)]
            simp [upF, Fr.get, Up.refl, hst, this]
        · have : t = 3 := by omega
          subst this
          have hw : IntKind.i64.wrap ((s : Int) + 1) = (s : Int) + 1 := i64w (by omega) (by omega)
          simp (maxSteps := 1000000) [go_sem, hw]
          refine hK (s + 1) _ _ (by omega) ?_ ⟨by omega, rfl⟩
          have := cnt_end ⟨b1, b2, b3⟩ ⟨d1, d2, d3⟩ hlt
          simp [upF, Fr.get, Up.refl, this]
    · have : s = 3 := by omega
      subst this
      simp (maxSteps := 1000000) [go_sem]
      rw [cnt_all]; exact h

theorem l01Fits_ok {H : Heap} {u : Value} {bs : List Bk} (hu : BlocksAt H u bs) (Post : Value -> Heap -> Prop) (h : ∀ H' b, H <+: H' -> (b = true ↔ Fits bs) -> Post (.bool b) H') :
    ACalls Tryz.prog 57 [u] H Post := by
  obtain ⟨i, o, rfl, h1, h2⟩ := hu
  refine acalls_vc (rs := [.tmp 2]) Tryz.func57 rfl rfl Tryz.ntmps57 rfl rfl ?_
  simp (maxSteps := 1000000) [go_sem]
  refine AWp.loopVc (fun s : Nat => [(0, lv 3 i o bs.length), (3, .int .i64 s)])
    (fun s H' => s <= bs.length /\ H <+: H' /\ ∀ (a k : Nat) (x y : Bk), a < s -> k < a -> bs[a]? = some x -> bs[k]? = some y -> common x y <= 1) (fun s => bs.length - s) 0 ?_ ?_ ?_
  · simp [upF, Fr.get, Up.refl]
  · exact ⟨by omega, List.prefix_refl _, by intro a k x y ha; omega⟩
  · rintro K s H' ⟨hs, hp, hf⟩ hK
    by_cases hlt : s < bs.length
    · have hbs : bs[s]? = some bs[s] := List.getElem?_eq_getElem hlt
      simp (maxSteps := 1000000) [go_sem, hlt]
      refine AWp.loopVc (fun t : Nat => [(0, lv 3 i o bs.length), (3, .int .i64 s), (4, .int .i64 t)])
        (fun t H2 => t <= s /\ H <+: H2 /\ ∀ (k : Nat) (y : Bk), k < t -> bs[k]? = some y -> common bs[s] y <= 1) (fun t => s - t) 0 ?_ ?_ ?_
      · simp [upF, Fr.get, Up.refl]
      · exact ⟨by omega, hp, by intro k y hk; omega⟩
      · rintro K2 t H2 ⟨ht, hp2, hft⟩ hK2
        by_cases htl : t < s
        · have hbt : bs[t]? = some (bs[t]'(by omega)) := List.getElem?_eq_getElem _
          have c1 := (h1.pre hp2).bk hbs
          have c2 := (h1.pre hp2).bk hbt
          simp only [Bk.cells] at c1 c2
          have hw : IntKind.i64.wrap ((t : Int) + 1) = (t : Int) + 1 := i64w (by omega) (by omega)
          have hlt2 : t < bs.length := by omega
          simp (maxSteps := 1000000) [go_sem, htl]
          refine AWp.draw mixed [(0, false), (1, false), (2, false), (3, false), (4, false), (5, false), (6, false), (7, false), (8, false), (9, false)] (by kernel_rfl) ?_
          simp (maxSteps := 1000000) [go_sem, hlt, hlt2, c1, c2]
          refine l01Common_ok (b := bs[s]) (d := bs[t]'(by omega)) _ ?_
          intro H3 hp3
          simp (maxSteps := 1000000) [go_sem, hw]
          refine condK_intro (fun hgt => ?_) (fun hle => ?_)
          · refine h H3 false (hp2.trans hp3) ⟨by simp, fun hF => ?_⟩
            have := hF s t _ _ htl hbs hbt
            simp at hgt; omega
          · refine hK2 (t + 1) _ _ (by omega) (by simp [upF, Fr.get, Up.refl]) ⟨by omega, hp2.trans hp3, fun k y hk hy => ?_⟩
            by_cases hkt : k = t
            · subst hkt
              rw [hbt] at hy; cases hy
              simp at hle; omega
            · exact hft k y (by omega) hy
        · have : t = s := by omega
          subst this
          have hw : IntKind.i64.wrap ((t : Int) + 1) = (t : Int) + 1 := i64w (by omega) (by omega)
          simp (maxSteps := 1000000) [go_sem, hw]
          refine hK (t + 1) _ _ (by omega) (by simp [upF, Fr.get, Up.refl]) ⟨by omega, hp2, fun a k x y ha hk hx hy => ?_⟩
          by_cases hat : a = t
          · subst hat
            rw [hbs] at hx; cases hx
            exact hft k y hk hy
          · exact hf a k x y (by omega) hk hx hy
    · have : s = bs.length := by omega
      subst this
      simp (maxSteps := 1000000) [go_sem]
      exact h H' true hp ⟨fun _ a k x y hk hx hy => hf a k x y (List.getElem?_eq_some_iff.1 hx).1 hk hx hy, fun _ => rfl⟩

theorem l01Is_ok {H : Heap} {u : Value} {p : Int} {bs : List Bk} (hu : BlocksAt H u bs) (hlen : bs.length <= 1048576) (Post : Value -> Heap -> Prop) (h : ∀ H' b, H <+: H' -> (b = true ↔ IsSys p bs) -> Post (.bool b) H') :
    ACalls Tryz.prog 33 [sysV p u] H Post := by
  obtain ⟨i, o, rfl, h1, h2⟩ := hu
  refine acalls_vc (rs := [.tmp 2]) Tryz.func33 rfl rfl Tryz.ntmps33 rfl rfl ?_
  simp (maxSteps := 1000000) [go_sem, sysV, Value.oneCell']
  refine l01In_ok _ ?_
  obtain ⟨H1, hH1⟩ : ∃ H1, H1 = H ++ [⟨[.int .i64 p, lv 3 i o bs.length], true, true⟩] := ⟨_, rfl⟩
  have hbox : H1[H.length]? = some ⟨[.int .i64 p, lv 3 i o bs.length], true, true⟩ := by rw [hH1]; simp
  have hp1 : H <+: H1 := by rw [hH1]; exact List.prefix_append _ _
  by_cases hin : 3 <= p /\ p <= 15
  · by_cases hl35 : bs.length <= 35
    · have hgt : ¬ ((35 : Int) < bs.length) := by omega
      simp (maxSteps := 1000000) [go_sem, hin.1, hin.2, hgt]
      rw [<- hH1]
      refine AWp.loopVc (fun s : Nat => [(1, .pointer (some ⟨H.length, 0, none⟩)), (3, .int .i64 s)])
        (fun s H' => s <= bs.length /\ H1 <+: H' /\ ∀ (a : Nat) (x : Bk), a < s -> bs[a]? = some x -> good p x = true /\ ∀ y, 0 < a -> bs[a - 1]? = some y -> before y x = true) (fun s => bs.length - s) 0 ?_ ?_ ?_
      · simp [upF, Fr.get, Up.refl]
      · exact ⟨by omega, List.prefix_refl _, by intro a x ha; omega⟩
      · rintro K s H' ⟨hs, hp, hf⟩ hK
        have box : ∀ {H2 : Heap}, H1 <+: H2 -> cellsAt H2 H.length 0 1 = some [.int .i64 p] /\ cellsAt H2 H.length 1 1 = some [lv 3 i o bs.length] := by
          intro H2 hp2
          have := pget hp2 hbox
          exact ⟨Holds.cell ⟨true, this⟩ rfl, Holds.cell ⟨true, this⟩ rfl⟩
        obtain ⟨b0, b1⟩ := box hp
        by_cases hlt : s < bs.length
        · have hbs : bs[s]? = some bs[s] := List.getElem?_eq_getElem hlt
          have c1 := (h1.pre (hp1.trans hp)).bk hbs
          simp only [Bk.cells] at c1
          have hw : IntKind.i64.wrap ((s : Int) + 1) = (s : Int) + 1 := i64w (by omega) (by omega)
          simp (maxSteps := 1000000) [go_sem, hlt, b0, b1]
          refine AWp.draw mixed [(0, false), (1, false), (2, false), (3, false), (4, false), (5, false), (6, false), (7, false), (8, false), (9, false), (10, false), (11, false), (12, false), (13, false), (14, false), (15, false), (16, false), (17, false), (18, false), (19, false), (20, false), (21, false), (22, false), (23, false), (24, false), (25, false), (26, false), (27, false)] (by kernel_rfl) ?_
          simp (maxSteps := 1000000) [go_sem, hlt, b0, b1, c1]
          refine l01Good_ok (b := bs[s]) _ ?_
          intro H2 hp2
          by_cases hg : good p bs[s] = true
          · by_cases h0 : s = 0
            · subst h0
              simp (maxSteps := 1000000) [go_sem, hg, hw]
              refine hK 1 _ _ (by omega) (by simp [upF, Fr.get, Up.refl, i64w (n := 1)]) ⟨by omega, hp.trans hp2, fun a x ha hx => ?_⟩
              obtain rfl : a = 0 := by omega
              rw [hbs] at hx; cases hx
              exact ⟨hg, by omega⟩
            · have hs0 : 0 < s := by omega
              obtain ⟨r, rfl⟩ : ∃ r, s = r + 1 := ⟨s - 1, by omega⟩
              have hbr : bs[r]? = some (bs[r]'(by omega)) := List.getElem?_eq_getElem _
              obtain ⟨d0, d1⟩ := box (hp.trans hp2)
              have e1 := (h1.pre (hp1.trans (hp.trans hp2))).bk hbs
              have e2 := (h1.pre (hp1.trans (hp.trans hp2))).bk hbr
              simp only [Bk.cells] at e1 e2
              have hr : r < bs.length := by omega
              have hw3 : IntKind.i64.wrap (r : Int) = (r : Int) := i64w (by omega) (by omega)
              have hw4 : IntKind.i64.wrap ((r : Int) + 1 + 1) = (r : Int) + 1 + 1 := i64w (by omega) (by omega)
              simp (maxSteps := 1000000) [go_sem, hg, hw, d0, d1, e1, e2, hlt, hr, hw3]
              refine andK_intro (by omega) (l01Before_ok (b := bs[r]'(by omega)) (d := bs[r + 1]) _ ?_)
              intro H3 hp3
              by_cases hbf : before (bs[r]'(by omega)) bs[r + 1] = true
              · simp (maxSteps := 1000000) [go_sem, hbf, hw4]
                refine hK (r + 1 + 1) _ _ (by omega) (by simp [upF, Fr.get, Up.refl]) ⟨by omega, hp.trans (hp2.trans hp3), fun a x ha hx => ?_⟩
                by_cases har : a = r + 1
                · subst har
                  rw [hbs] at hx; cases hx
                  refine ⟨hg, fun y _ hy => ?_⟩
                  simp only [Nat.add_sub_cancel] at hy
                  rw [hbr] at hy; cases hy
                  exact hbf
                · exact hf a x (by omega) hx
              · simp (maxSteps := 1000000) [go_sem, hbf]
                refine h H3 false (hp1.trans (hp.trans (hp2.trans hp3))) ⟨by simp, fun hS => ?_⟩
                exact absurd ((hS.2.2.1 (r + 1) _ hbs).2 _ (by omega) (by simpa using hbr)) hbf
          · simp (maxSteps := 1000000) [go_sem, hg]
            refine h H2 false (hp1.trans (hp.trans hp2)) ⟨by simp, fun hS => ?_⟩
            exact absurd (hS.2.2.1 s _ hbs).1 hg
        · have : s = bs.length := by omega
          subst this
          simp (maxSteps := 1000000) [go_sem, b0, b1]
          refine l01Fits_ok ⟨i, o, rfl, h1.pre (hp1.trans hp), h2⟩ _ ?_
          intro H2 b hp2 hb
          simp (maxSteps := 1000000) [go_sem]
          refine h H2 b (hp1.trans (hp.trans hp2)) (hb.trans ⟨fun hF => ⟨hin, hl35, fun a x hx => hf a x (List.getElem?_eq_some_iff.1 hx).1 hx, hF⟩, fun hS => hS.2.2.2⟩)
    · have hgt : (35 : Int) < bs.length := by omega
      simp (maxSteps := 1000000) [go_sem, hin.1, hin.2, hgt]
      refine h _ false (List.prefix_append _ _) ⟨by simp, fun hS => absurd hS.2.1 hl35⟩
  · have hn : (decide (3 <= p) && decide (p <= 15)) = false := by simp; omega
    rw [hn]
    simp (maxSteps := 1000000) [go_sem]
    exact h _ false (List.prefix_append _ _) ⟨by simp, fun hS => absurd hS.1 hin⟩

end Go.Proofs.YtkimaohcmcfcnaaGreat
end

section
namespace Go.Proofs.YtkimaohcmcfcnaaGreat
open Go.Ab

theorem rises_ok {H : Heap} {u : Value} {xs : List Int} {n : Int} (hu : IntsAt H u xs) (hn : -9223372036854775807 <= n) (hn' : n <= 9223372036854775807) (Post : Value -> Heap -> Prop) (h : ∀ b : Bool, (b = true ↔ Rises n xs) -> Post (.bool b) H) :
    ACalls Tryz.prog 60 [u, .int .i64 n] H Post := by
  obtain ⟨i, o, rfl, h1, h2⟩ := hu
  refine acalls_vc (rs := [.tmp 4]) Tryz.func60 rfl rfl Tryz.ntmps60 rfl rfl ?_
  simp (maxSteps := 1000000) [go_sem]
  refine AWp.loopVc (fun s : Nat => [(0, lv 1 i o xs.length), (1, .int .i64 n), (7, lv 1 i o xs.length), (8, .int .i64 xs.length), (9, .int .i64 s)])
    (fun s H' => s <= xs.length /\ H' = H /\ ∀ (a : Nat) (x : Int), a < s -> xs[a]? = some x -> (0 <= x /\ x < n) /\ ∀ y, 0 < a -> xs[a - 1]? = some y -> y < x) (fun s => xs.length - s) 0 ?_ ?_ ?_
  · simp [upF, Fr.get, Up.refl]
  · exact ⟨by omega, rfl, by intro a x ha; omega⟩
  · rintro K s H' ⟨hs, rfl, hf⟩ hK
    by_cases hlt : s < xs.length
    · have hx : xs[s]? = some xs[s] := List.getElem?_eq_getElem hlt
      have c1 := h1.cell (k := s) (v := .int .i64 xs[s]) (by simp [ints_get, hlt])
      have hw : IntKind.i64.wrap ((s : Int) + 1) = (s : Int) + 1 := i64w (by omega) (by omega)
      have hwn : IntKind.i64.wrap (n - 1) = n - 1 := i64w (by omega) (by omega)
      simp (maxSteps := 1000000) [go_sem, hlt, c1, hwn]
      refine within_ok _ ?_
      by_cases hin : 0 <= xs[s] /\ xs[s] <= n - 1
      · by_cases h0 : s = 0
        · subst h0
          simp (maxSteps := 1000000) [go_sem, hin.1, hin.2, i64w (n := 1)]
          refine hK 1 _ _ (by omega) (by simp [upF, Fr.get, Up.refl]) ⟨by omega, rfl, fun a x ha hx' => ?_⟩
          obtain rfl : a = 0 := by omega
          rw [hx] at hx'; cases hx'
          exact ⟨by omega, by omega⟩
        · obtain ⟨r, rfl⟩ : ∃ r, s = r + 1 := ⟨s - 1, by omega⟩
          have hxr : xs[r]? = some (xs[r]'(by omega)) := List.getElem?_eq_getElem _
          have c2 := h1.cell (k := r) (v := .int .i64 (xs[r]'(by omega))) (by simp [ints_get, hxr])
          have hr : r < xs.length := by omega
          have hw3 : IntKind.i64.wrap (r : Int) = (r : Int) := i64w (by omega) (by omega)
          have hw4 : IntKind.i64.wrap ((r : Int) + 1 + 1) = (r : Int) + 1 + 1 := i64w (by omega) (by omega)
          simp (maxSteps := 1000000) [go_sem, hin.1, hin.2, hw3, hr, c2, hw4]
          refine condK_intro (fun hge => ?_) (fun hlt' => ?_)
          · refine h false ⟨by simp, fun hR => ?_⟩
            have := (hR (r + 1) _ hx).2 _ (by omega) hxr
            simp at hge; omega
          · refine hK (r + 1 + 1) _ _ (by omega) (by simp [upF, Fr.get, Up.refl]) ⟨by omega, rfl, fun a x ha hx' => ?_⟩
            by_cases har : a = r + 1
            · subst har
              rw [hx] at hx'; cases hx'
              refine ⟨by omega, fun y _ hy => ?_⟩
              simp only [Nat.add_sub_cancel] at hy
              rw [hxr] at hy; cases hy
              simpa using hlt'
            · exact hf a x (by omega) hx'
      · have hnin : (decide (0 <= xs[s]) && decide (xs[s] <= n - 1)) = false := by simp; omega
        rw [hnin]
        simp (maxSteps := 1000000) [go_sem]
        refine h false ⟨by simp, fun hR => ?_⟩
        have := (hR s _ hx).1
        omega
    · have : s = xs.length := by omega
      subst this
      simp (maxSteps := 1000000) [go_sem]
      exact h true ⟨fun _ a x hx => hf a x (List.getElem?_eq_some_iff.1 hx).1 hx, fun _ => rfl⟩

theorem isBlock_ok {H : Heap} {b : Bk} {v : Int} (hn : -9223372036854775807 <= v) (hn' : v <= 9223372036854775807) (Post : Value -> Heap -> Prop) (h : ∀ H', H <+: H' -> Post (.bool (good v b)) H') :
    ACalls Tryz.prog 41 [b.val, .int .i64 v] H Post := by
  refine acalls_vc (rs := [.tmp 4]) Tryz.func41 rfl rfl Tryz.ntmps41 rfl rfl ?_
  simp (maxSteps := 1000000) [go_sem, Bk.val, Value.oneCell']
  have hat : At (H ++ [⟨[.int .i64 b.a, .int .i64 b.b, .int .i64 b.c], true, true⟩]) H.length 0 (ints [b.a, b.b, b.c]) := Holds.at ⟨true, by simp [ints]⟩
  refine ACalls.up (args' := [lv 1 H.length 0 3, .int .i64 v]) ⟨Up.ex (by omega) (.inr (by simp [go_sem])), Up.refl _ _, trivial⟩ ?_
  refine rises_ok (xs := [b.a, b.b, b.c]) ⟨H.length, 0, rfl, hat, by simp⟩ hn hn' _ ?_
  intro r hr
  simp (maxSteps := 1000000) [go_sem]
  have : r = good v b := by
    rw [rises_block] at hr
    cases r <;> cases hg : good v b <;> simp_all
  rw [this]
  exact h _ (List.prefix_append _ _)

theorem isNaN_ok {H : Heap} {x : Int} (Post : Value -> Heap -> Prop) (h : Post (.bool false) H) :
    ACalls Tryz.prog 85 [.int .i64 x] H Post := by
  refine acalls_vc (rs := [.tmp 2]) Tryz.func85 rfl rfl Tryz.ntmps85 rfl rfl ?_
  simp (maxSteps := 1000000) [go_sem]
  exact h

theorem cmpCompare_ok {H : Heap} {x y : Int} (Post : Value -> Heap -> Prop) (h : Post (.int .i64 (if x < y then -1 else if y < x then 1 else 0)) H) :
    ACalls Tryz.prog 78 [.int .i64 x, .int .i64 y] H Post := by
  refine acalls_vc (rs := [.tmp 4]) Tryz.func78 rfl rfl Tryz.ntmps78 rfl rfl ?_
  simp (maxSteps := 1000000) [go_sem]
  refine isNaN_ok _ ?_
  simp (maxSteps := 1000000) [go_sem]
  refine isNaN_ok _ ?_
  simp (maxSteps := 1000000) [go_sem]
  refine condK_intro (fun h1 => ?_) (fun h1 => ?_)
  · rw [if_pos (by simpa using h1)] at h; exact h
  · rw [if_neg (by simpa using h1)] at h
    refine condK_intro (fun h2 => ?_) (fun h2 => ?_)
    · rw [if_pos (by simpa using h2)] at h; exact h
    · rw [if_neg (by simpa using h2)] at h; exact h

theorem slicesCompare_ok {H : Heap} {u v : Value} {xs ys : List Int} (hu : IntsAt H u xs) (hv : IntsAt H v ys) (Post : Value -> Heap -> Prop) (h : Post (.int .i64 (lexC xs ys)) H) :
    ACalls Tryz.prog 61 [u, v] H Post := by
  obtain ⟨i, o, rfl, h1, h2⟩ := hu
  obtain ⟨j, q, rfl, h3, h4⟩ := hv
  refine acalls_vc (rs := [.tmp 4]) Tryz.func61 rfl rfl Tryz.ntmps61 rfl rfl ?_
  simp (maxSteps := 1000000) [go_sem]
  refine AWp.loopVc (fun s : Nat => [(0, lv 1 i o xs.length), (1, lv 1 j q ys.length), (9, lv 1 i o xs.length), (10, .int .i64 xs.length), (11, .int .i64 s)])
    (fun s H' => s <= xs.length /\ s <= ys.length /\ H' = H /\ lexC xs ys = lexC (xs.drop s) (ys.drop s)) (fun s => xs.length - s) 0 ?_ ?_ ?_
  · simp [upF, Fr.get, Up.refl]
  · exact ⟨by omega, by omega, rfl, by simp⟩
  · rintro K s H' ⟨hs, hs', rfl, hf⟩ hK
    by_cases hlt : s < xs.length
    · have hdx : xs.drop s = xs[s] :: xs.drop (s + 1) := List.drop_eq_getElem_cons hlt
      have c1 := h1.cell (k := s) (v := .int .i64 xs[s]) (by simp [ints_get, hlt])
      have hw : IntKind.i64.wrap ((s : Int) + 1) = (s : Int) + 1 := i64w (by omega) (by omega)
      by_cases hly : s < ys.length
      · have hdy : ys.drop s = ys[s] :: ys.drop (s + 1) := List.drop_eq_getElem_cons hly
        have c2 := h3.cell (k := s) (v := .int .i64 ys[s]) (by simp [ints_get, hly])
        have hly' : ¬ ys.length <= s := by omega
        simp (maxSteps := 1000000) [go_sem, hlt, hly, hly', c1, c2]
        refine cmpCompare_ok _ ?_
        rw [hdx, hdy] at hf
        simp only [lexC] at hf
        by_cases hxy : xs[s] < ys[s]
        · rw [if_pos hxy] at hf ⊢
          simp (maxSteps := 1000000) [go_sem]
          rw [hf] at h; exact h
        · rw [if_neg hxy] at hf ⊢
          by_cases hyx : ys[s] < xs[s]
          · rw [if_pos hyx] at hf ⊢
            simp (maxSteps := 1000000) [go_sem]
            rw [hf] at h; exact h
          · rw [if_neg hyx] at hf ⊢
            simp (maxSteps := 1000000) [go_sem, hw]
            exact hK (s + 1) _ _ (by omega) (by simp [upF, Fr.get, Up.refl]) ⟨by omega, by omega, rfl, hf⟩
      · have hly' : ys.length <= s := by omega
        simp (maxSteps := 1000000) [go_sem, hlt, hly', c1]
        rw [hdx, List.drop_eq_nil_of_le hly'] at hf
        simp only [lexC] at hf
        rw [hf] at h; exact h
    · have : s = xs.length := by omega
      subst this
      simp (maxSteps := 1000000) [go_sem]
      rw [List.drop_eq_nil_of_le (Nat.le_refl _)] at hf
      refine condK_intro (fun hl => ?_) (fun hl => ?_)
      · have hl : xs.length < ys.length := by simpa using hl
        rw [List.drop_eq_getElem_cons hl] at hf
        simp only [lexC] at hf
        rw [hf] at h; exact h
      · have hl : ys.length <= xs.length := by simpa using hl
        rw [List.drop_eq_nil_of_le hl] at hf
        simp only [lexC] at hf
        rw [hf] at h; exact h

theorem compare_ok {H : Heap} {b d : Bk} (Post : Value -> Heap -> Prop) (h : ∀ H', H <+: H' -> Post (.int .i64 (lexC [b.a, b.b, b.c] [d.a, d.b, d.c])) H') :
    ACalls Tryz.prog 42 [b.val, d.val] H Post := by
  refine acalls_vc (rs := [.tmp 4]) Tryz.func42 rfl rfl Tryz.ntmps42 rfl rfl ?_
  simp (maxSteps := 1000000) [go_sem, Bk.val, Value.oneCell']
  refine AWp.draw mixed [(0, false), (1, false), (2, false), (3, false)] (by kernel_rfl) ?_
  simp (maxSteps := 1000000) [go_sem]
  have ha : Holds (H ++ [⟨[.int .i64 b.a, .int .i64 b.b, .int .i64 b.c], true, true⟩, ⟨[.int .i64 d.a, .int .i64 d.b, .int .i64 d.c], true, true⟩]) H.length (ints [b.a, b.b, b.c]) := ⟨true, by simp [ints]⟩
  have hd : Holds (H ++ [⟨[.int .i64 b.a, .int .i64 b.b, .int .i64 b.c], true, true⟩, ⟨[.int .i64 d.a, .int .i64 d.b, .int .i64 d.c], true, true⟩]) (H.length + 1) (ints [d.a, d.b, d.c]) := ⟨true, by simp [ints]⟩
  refine ACalls.up (args' := [lv 1 H.length 0 3, lv 1 (H.length + 1) 0 3]) ⟨Up.ex (by omega) (.inr (by simp [go_sem])), Up.ex (by omega) (.inr (by simp [go_sem])), trivial⟩ ?_
  refine slicesCompare_ok (xs := [b.a, b.b, b.c]) (ys := [d.a, d.b, d.c]) ⟨H.length, 0, rfl, ha.at, by simp⟩ ⟨H.length + 1, 0, rfl, hd.at, by simp⟩ _ ?_
  simp (maxSteps := 1000000) [go_sem]
  exact h _ (List.prefix_append _ _)

end Go.Proofs.YtkimaohcmcfcnaaGreat
end

section
namespace Go.Ab

def Bk.has (b : Bk) (p : Int) : Bool := decide (b.a = p) || (decide (b.b = p) || decide (b.c = p))
theorem Bk.has_iff {b : Bk} {p : Int} : b.has p = true ↔ (b.a = p \/ b.b = p \/ b.c = p) := by simp [Bk.has]

def third (bs : List Bk) (p q : Int) : Int :=
  match bs.find? (fun c => c.has p && c.has q) with
  | some c => c.a + c.b + c.c - p - q
  | none => -1

theorem good_iff {v : Int} {b : Bk} : good v b = true ↔ 0 <= b.a /\ b.a < b.b /\ b.b < b.c /\ b.c < v := by
  simp only [good, Bool.and_eq_true, decide_eq_true_eq, and_assoc]

theorem third_value {v : Int} {c : Bk} {p q : Int} (hc : good v c = true) (hpq : p ≠ q) (hp : c.has p = true) (hq : c.has q = true) :
    0 <= c.a + c.b + c.c - p - q /\ c.a + c.b + c.c - p - q < v /\ c.has (c.a + c.b + c.c - p - q) = true /\ c.a + c.b + c.c - p - q ≠ p /\ c.a + c.b + c.c - p - q ≠ q := by
  rw [good_iff] at hc
  rw [Bk.has_iff] at hp hq ⊢
  obtain ⟨h1, h2, h3, h4⟩ := hc
  refine ⟨?_, ?_, ?_, ?_, ?_⟩ <;> rcases hp with hp | hp | hp <;> rcases hq with hq | hq | hq <;> omega

theorem third_neg {v : Int} {bs : List Bk} (hg : ∀ x ∈ bs, good v x = true) {p q : Int} (hpq : p ≠ q) : third bs p q = -1 ↔ ∀ x ∈ bs, ¬ (x.has p = true /\ x.has q = true) := by
  unfold third
  cases hf : bs.find? (fun c => c.has p && c.has q) with
  | none =>
    simp only [true_iff]
    intro x hx h
    have := List.find?_eq_none.1 hf x hx
    simp [h.1, h.2] at this
  | some c =>
    have h1 := List.find?_some hf
    have h2 := List.mem_of_find?_eq_some hf
    simp only [Bool.and_eq_true] at h1
    have := third_value (hg c h2) hpq h1.1 h1.2
    constructor
    · intro h
      have h : c.a + c.b + c.c - p - q = -1 := h
      omega
    · intro h; exact absurd h1 (h c h2)

theorem third_some {v : Int} {bs : List Bk} (hg : ∀ x ∈ bs, good v x = true) {p q : Int} (hpq : p ≠ q) (h : third bs p q ≠ -1) :
    ∃ c ∈ bs, c.has p = true /\ c.has q = true /\ third bs p q = c.a + c.b + c.c - p - q /\ 0 <= third bs p q /\ third bs p q < v /\ c.has (third bs p q) = true /\ third bs p q ≠ p /\ third bs p q ≠ q := by
  unfold third at h ⊢
  cases hf : bs.find? (fun c => c.has p && c.has q) with
  | none => simp [hf] at h
  | some c =>
    have h1 := List.find?_some hf
    have h2 := List.mem_of_find?_eq_some hf
    simp only [Bool.and_eq_true] at h1
    exact ⟨c, h2, h1.1, h1.2, rfl, third_value (hg c h2) hpq h1.1 h1.2⟩

theorem third_comm (bs : List Bk) (p q : Int) : third bs p q = third bs q p := by
  unfold third
  rw [show (fun c : Bk => c.has p && c.has q) = (fun c => c.has q && c.has p) from funext fun c => Bool.and_comm _ _]
  split <;> omega

theorem third_snoc {bs : List Bk} {b : Bk} {p q : Int} : third (bs ++ [b]) p q = match bs.find? (fun c => c.has p && c.has q) with
    | some c => c.a + c.b + c.c - p - q
    | none => if b.has p && b.has q then b.a + b.b + b.c - p - q else -1 := by
  unfold third
  rw [List.find?_append]
  cases bs.find? (fun c => c.has p && c.has q) with
  | some c => rfl
  | none =>
    simp only [Option.none_or, List.find?_cons]
    cases b.has p && b.has q <;> rfl

theorem third_snoc_in {v : Int} {bs : List Bk} {b : Bk} (hg : ∀ x ∈ bs, good v x = true) {p q : Int} (hpq : p ≠ q) (hp : b.has p = true) (hq : b.has q = true) (hn : third bs p q = -1) : third (bs ++ [b]) p q = b.a + b.b + b.c - p - q := by
  have h := (third_neg hg hpq).1 hn
  rw [third_snoc]
  cases hf : bs.find? (fun c => c.has p && c.has q) with
  | none => simp [hp, hq]
  | some c =>
    have h1 := List.find?_some hf
    simp only [Bool.and_eq_true] at h1
    exact absurd h1 (h c (List.mem_of_find?_eq_some hf))

theorem third_snoc_out {bs : List Bk} {b : Bk} {p q : Int} (h : ¬ (b.has p = true /\ b.has q = true)) : third (bs ++ [b]) p q = third bs p q := by
  rw [third_snoc]
  unfold third
  have : (b.has p && b.has q) = false := by
    cases hp : b.has p <;> cases hq : b.has q <;> simp_all
  cases bs.find? (fun c => c.has p && c.has q) with
  | none => simp [this]
  | some c => rfl

def hasN (x : Bk) (p : Int) : Nat := eq01 x.a p + eq01 x.b p + eq01 x.c p
theorem hasN_eq {v : Int} {x : Bk} (hx : good v x = true) (p : Int) : hasN x p = if x.has p then 1 else 0 := by
  rw [good_iff] at hx
  simp only [hasN, eq01, Bk.has_iff]
  split <;> split <;> split <;> split <;> omega
theorem common_eq (x y : Bk) : common x y = hasN x y.a + hasN x y.b + hasN x y.c := by
  simp only [common, hasN]; omega
theorem common_le_one {v w : Int} {x y : Bk} (hx : good v x = true) :
    common x y <= 1 ↔ ¬ (x.has y.a = true /\ x.has y.b = true) /\ ¬ (x.has y.a = true /\ x.has y.c = true) /\ ¬ (x.has y.b = true /\ x.has y.c = true) := by
  rw [common_eq, hasN_eq hx, hasN_eq hx, hasN_eq hx]
  cases x.has y.a <;> cases x.has y.b <;> cases x.has y.c <;> simp

theorem common_comm (x y : Bk) : common x y = common y x := by
  have : ∀ a b : Int, eq01 a b = eq01 b a := by intro a b; simp only [eq01]; split <;> split <;> omega
  simp only [common, this y.a, this y.b, this y.c]
  omega

def leftB (bs : List Bk) (b : Bk) : Bool := decide (third bs b.a b.b = -1) && (decide (third bs b.a b.c = -1) && decide (third bs b.b b.c = -1))
theorem leftB_iff {v w : Int} {bs : List Bk} (hg : ∀ x ∈ bs, good v x = true) {b : Bk} (hb : good w b = true) : leftB bs b = true ↔ ∀ x ∈ bs, common x b <= 1 := by
  have hb' := good_iff.1 hb
  simp only [leftB, Bool.and_eq_true, decide_eq_true_eq]
  rw [third_neg hg (by omega), third_neg hg (by omega), third_neg hg (by omega)]
  constructor
  · intro h x hx
    exact (common_le_one (w := w) (hg x hx)).2 ⟨h.1 x hx, h.2.1 x hx, h.2.2 x hx⟩
  · intro h
    refine ⟨fun x hx => ?_, fun x hx => ?_, fun x hx => ?_⟩
    · exact ((common_le_one (w := w) (hg x hx)).1 (h x hx)).1
    · exact ((common_le_one (w := w) (hg x hx)).1 (h x hx)).2.1
    · exact ((common_le_one (w := w) (hg x hx)).1 (h x hx)).2.2

theorem fits_snoc {bs : List Bk} {b : Bk} : Fits (bs ++ [b]) ↔ Fits bs /\ ∀ x ∈ bs, common x b <= 1 := by
  constructor
  · intro h
    refine ⟨fun i k x y hk hx hy => ?_, fun x hx => ?_⟩
    · have h1 := (List.getElem?_eq_some_iff.1 hx).1
      exact h i k x y hk (by rw [List.getElem?_append_left h1]; exact hx) (by rw [List.getElem?_append_left (by omega)]; exact hy)
    · obtain ⟨k, hk⟩ := List.mem_iff_getElem?.1 hx
      have h1 := (List.getElem?_eq_some_iff.1 hk).1
      have := h bs.length k b x h1 (by simp) (by rw [List.getElem?_append_left h1]; exact hk)
      rw [common_comm]; exact this
  · rintro ⟨h, hb⟩ i k x y hk hx hy
    have hi := (List.getElem?_eq_some_iff.1 hx).1
    simp only [List.length_append, List.length_singleton] at hi
    rw [List.getElem?_append_left (by omega)] at hy
    by_cases e : i < bs.length
    · rw [List.getElem?_append_left e] at hx
      exact h i k x y hk hx hy
    · have : i = bs.length := by omega
      subst this
      simp at hx; subst hx
      rw [common_comm]; exact hb y (List.mem_of_getElem? hy)

theorem fits_take {bs : List Bk} (h : Fits bs) (n : Nat) : Fits (bs.take n) := by
  intro i k x y hk hx hy
  rw [List.getElem?_take] at hx hy
  split at hx
  · split at hy
    · exact h i k x y hk hx hy
    · cases hy
  · cases hx

def gAt (gs : List Int) (p q : Nat) : Int := gs.getD (p * 15 + q) 0
def gSet (gs : List Int) (p q : Nat) (n : Int) : List Int := (gs.set (p * 15 + q) n).set (q * 15 + p) n

theorem gSet_length (gs : List Int) (p q : Nat) (n : Int) : (gSet gs p q n).length = gs.length := by simp [gSet]
theorem gAt_set {gs : List Int} (hl : gs.length = 225) {a b p q : Nat} (ha : a < 15) (hb : b < 15) (hp : p < 15) (hq : q < 15) (n : Int) :
    gAt (gSet gs a b n) p q = if (p = a /\ q = b) \/ (p = b /\ q = a) then n else gAt gs p q := by
  simp only [gAt, gSet, List.getD_eq_getElem?_getD, List.getElem?_set, List.length_set]
  by_cases h1 : b * 15 + a = p * 15 + q
  · rw [if_pos h1, if_pos (by omega), if_pos (by omega)]; rfl
  · rw [if_neg h1]
    by_cases h2 : a * 15 + b = p * 15 + q
    · rw [if_pos h2, if_pos (by omega), if_pos (by omega)]; rfl
    · rw [if_neg h2, if_neg (by omega)]

def GridOf (gs : List Int) (bs : List Bk) : Prop := gs.length = 225 /\ ∀ p q : Nat, p < 15 -> q < 15 -> gAt gs p q = if p = q then -1 else third bs p q

theorem gridOf_nil : GridOf (List.replicate 225 (-1)) [] := by
  refine ⟨List.length_replicate, fun p q hp hq => ?_⟩
  simp only [gAt, List.getD_eq_getElem?_getD, List.getElem?_replicate, third, List.find?_nil]
  rw [if_pos (by omega)]
  split <;> rfl

theorem gridOf_snoc {gs : List Int} {bs : List Bk} (h : GridOf gs bs) (hg : ∀ x ∈ bs, good 15 x = true) {a b c : Nat} (hab : a < b) (hbc : b < c) (hc : c < 15) (hl : leftB bs ⟨a, b, c⟩ = true) :
    GridOf (gSet (gSet (gSet gs a b (c : Int)) b c (a : Int)) c a (b : Int)) (bs ++ [⟨a, b, c⟩]) := by
  obtain ⟨hl0, h⟩ := h
  simp only [leftB, Bool.and_eq_true, decide_eq_true_eq] at hl
  refine ⟨by simp [gSet_length, hl0], fun p q hp hq => ?_⟩
  rw [gAt_set (by simp [gSet_length, hl0]) hc (by omega) hp hq, gAt_set (by simp [gSet_length, hl0]) (by omega) hc hp hq, gAt_set hl0 (by omega) (by omega) hp hq, h p q hp hq]
  have hac := hl.2.1
  have hca : third bs (c : Int) (a : Int) = -1 := by rw [third_comm]; exact hac
  by_cases e : p = q
  · subst e
    rw [if_neg (by omega), if_neg (by omega), if_neg (by omega), if_pos rfl, if_pos rfl]
  · rw [if_neg e, if_neg e]
    by_cases h1 : (p = c /\ q = a) \/ (p = a /\ q = c)
    · rw [if_pos h1, third_snoc_in hg (by omega) (by rw [Bk.has_iff]; simp only; omega) (by rw [Bk.has_iff]; simp only; omega)]
      · simp only; omega
      · rcases h1 with ⟨rfl, rfl⟩ | ⟨rfl, rfl⟩
        · exact hca
        · exact hac
    · rw [if_neg h1]
      by_cases h2 : (p = b /\ q = c) \/ (p = c /\ q = b)
      · rw [if_pos h2, third_snoc_in hg (by omega) (by rw [Bk.has_iff]; simp only; omega) (by rw [Bk.has_iff]; simp only; omega)]
        · simp only; omega
        · rcases h2 with ⟨rfl, rfl⟩ | ⟨rfl, rfl⟩
          · exact hl.2.2
          · rw [third_comm]; exact hl.2.2
      · rw [if_neg h2]
        by_cases h3 : (p = a /\ q = b) \/ (p = b /\ q = a)
        · rw [if_pos h3, third_snoc_in hg (by omega) (by rw [Bk.has_iff]; simp only; omega) (by rw [Bk.has_iff]; simp only; omega)]
          · simp only; omega
          · rcases h3 with ⟨rfl, rfl⟩ | ⟨rfl, rfl⟩
            · exact hl.1
            · rw [third_comm]; exact hl.1
        · rw [if_neg h3, third_snoc_out]
          rw [Bk.has_iff, Bk.has_iff]; simp only; omega

theorem gridOf_left {gs : List Int} {bs : List Bk} (h : GridOf gs bs) {a b c : Nat} (hab : a < b) (hbc : b < c) (hc : c < 15) :
    (decide (gAt gs a b = -1) && (decide (gAt gs a c = -1) && decide (gAt gs b c = -1))) = leftB bs ⟨a, b, c⟩ := by
  rw [h.2 a b (by omega) (by omega), h.2 a c (by omega) (by omega), h.2 b c (by omega) (by omega), if_neg (by omega), if_neg (by omega), if_neg (by omega)]
  rfl

end Go.Ab
end

section
namespace Go.Proofs.YtkimaohcmcfcnaaGreat
open Go.Ab

def GridAt (H : Heap) (id : Nat) (gs : List Int) : Prop := H[id]? = some ⟨ints gs, true, true⟩ /\ gs.length = 225

theorem GridAt.load {H : Heap} {id : Nat} {gs : List Int} (h : GridAt H id gs) {k : Nat} (hk : k < 225) : cellsAt H id k 1 = some [.int .i64 (gs.getD k 0)] := by
  refine Holds.cell ⟨true, h.1⟩ ?_
  have := h.2
  rw [ints_get, List.getD_eq_getElem?_getD, List.getElem?_eq_getElem (by omega)]
  rfl

theorem GridAt.store {H : Heap} {id : Nat} {gs : List Int} (h : GridAt H id gs) {k : Nat} (hk : k < 225) (n : Int) :
    storeAt H id k [.int .i64 n] = some (H.set id ⟨ints (gs.set k n), true, true⟩) /\ GridAt (H.set id ⟨ints (gs.set k n), true, true⟩) id (gs.set k n) := by
  have hl := h.2
  refine ⟨?_, by rw [List.getElem?_set_self (List.getElem?_eq_some_iff.1 h.1).1], by simpa using hl⟩
  rw [storeAt_of h.1 rfl rfl (by simp only [ints_length, List.length_singleton]; omega) (by simp [Value.oneCell']), over_one (by simp only [ints_length]; omega), ints_set]

theorem newGrid_ok {H : Heap} (Post : Value -> Heap -> Prop) (h : ∀ H' id, H <+: H' -> H.length <= id -> GridAt H' id (List.replicate 225 (-1)) -> Post (.pointer (some ⟨id, 0, none⟩)) H') :
    ACalls Tryz.prog 62 [] H Post := by
  refine acalls_vc (rs := [.tmp 0]) Tryz.func62 rfl rfl Tryz.ntmps62 rfl rfl ?_
  simp (maxSteps := 1000000) [go_sem, -List.reduceReplicate]
  have hz : List.replicate 225 (Value.int .i64 0) = ints (List.replicate 225 0) := by simp only [ints, List.map_replicate]
  rw [hz]
  have hg0 : GridAt (H ++ [⟨ints (List.replicate 225 0), true, true⟩]) H.length (List.replicate 225 0) := ⟨by simp only [List.getElem?_concat_length], List.length_replicate⟩
  have hp0 : H <+: H ++ [⟨ints (List.replicate 225 0), true, true⟩] := List.prefix_append _ _
  generalize H ++ [⟨ints (List.replicate 225 0), true, true⟩] = H1 at hg0 hp0 ⊢
  have hset : ∀ m, m < 225 -> (List.replicate m (-1 : Int) ++ List.replicate (225 - m) 0).set m (-1) = List.replicate (m + 1) (-1) ++ List.replicate (225 - (m + 1)) 0 := by
    intro m hm
    rw [List.set_append_right _ _ (by rw [List.length_replicate]; exact Nat.le_refl _), List.length_replicate, Nat.sub_self, show 225 - m = (225 - (m + 1)) + 1 by omega, List.replicate_succ, List.set_cons_zero, <- List.replicate_append_replicate, List.append_assoc]
    rfl
  have keep : ∀ {H' : Heap} {b : Blk}, H <+: H' -> H <+: H'.set H.length b := fun hp =>
    (show Same (fun j => j = H.length) H _ from (Same.of_prefix hp).trans Same.set).prefix (by omega)
  refine AWp.loopVc (fun s : Nat => [(1, .pointer (some ⟨H.length, 0, none⟩)), (4, .int .i64 s)])
    (fun s H' => s <= 15 /\ H <+: H' /\ GridAt H' H.length (List.replicate (s * 15) (-1) ++ List.replicate (225 - s * 15) 0)) (fun s => 15 - s) 0 ?_ ?_ ?_
  · simp [upF, Fr.get, Up.refl]
  · exact ⟨by omega, hp0, by simpa only [Nat.zero_mul, List.replicate_zero, List.nil_append, Nat.sub_zero] using hg0⟩
  · rintro K s H' ⟨hs, hp, hg⟩ hK
    by_cases hlt : s < 15
    · have hlt' : (s : Int) < 15 := by omega
      simp (maxSteps := 1000000) [go_sem, hlt, hlt']
      refine AWp.loopVc (fun t : Nat => [(1, .pointer (some ⟨H.length, 0, none⟩)), (2, .int .i64 s), (4, .int .i64 s), (7, .int .i64 t)])
        (fun t H2 => t <= 15 /\ H <+: H2 /\ GridAt H2 H.length (List.replicate (s * 15 + t) (-1) ++ List.replicate (225 - (s * 15 + t)) 0)) (fun t => 15 - t) 0 ?_ ?_ ?_
      · simp [upF, Fr.get, Up.refl]
      · exact ⟨by omega, hp, by simpa only [Nat.add_zero] using hg⟩
      · rintro K2 t H2 ⟨ht, hp2, hg2⟩ hK2
        by_cases htl : t < 15
        · have htl' : (t : Int) < 15 := by omega
          have hw : IntKind.i64.wrap ((t : Int) + 1) = (t : Int) + 1 := i64w (by omega) (by omega)
          obtain ⟨hst, hg3⟩ := hg2.store (k := s * 15 + t) (by omega) (-1)
          rw [hset _ (by omega)] at hst hg3
          rw [show 225 - (s * 15 + t + 1) = 224 - (s * 15 + t) by omega] at hst hg3
          simp (maxSteps := 1000000) [go_sem, hlt, hlt', htl, htl', hw, Value.oneCell', hst, -List.reduceReplicate]
          exact hK2 (t + 1) _ _ (by omega) (by simp [upF, Fr.get, Up.refl]) ⟨by omega, keep hp2, by rw [show 225 - (s * 15 + (t + 1)) = 224 - (s * 15 + t) by omega]; exact hg3⟩
        · have : t = 15 := by omega
          subst this
          have hw : IntKind.i64.wrap ((s : Int) + 1) = (s : Int) + 1 := i64w (by omega) (by omega)
          simp (maxSteps := 1000000) [go_sem, hw]
          refine hK (s + 1) _ _ (by omega) (by simp [upF, Fr.get, Up.refl]) ⟨by omega, hp2, ?_⟩
          rw [Nat.add_mul, Nat.one_mul]; exact hg2
    · have : s = 15 := by omega
      subst this
      simp (maxSteps := 1000000) [go_sem]
      exact h H' H.length hp (Nat.le_refl _) (by simpa using hg)

theorem isLeft_ok {H : Heap} {id : Nat} {gs : List Int} (hg : GridAt H id gs) {a b c : Nat} (ha : a < 15) (hb : b < 15) (hc : c < 15) (Post : Value -> Heap -> Prop)
    (h : ∀ H', H <+: H' -> Post (.bool (decide (gAt gs a b = -1) && (decide (gAt gs a c = -1) && decide (gAt gs b c = -1)))) H') :
    ACalls Tryz.prog 63 [.pointer (some ⟨id, 0, none⟩), (Bk.mk a b c).val] H Post := by
  refine acalls_vc (rs := [.tmp 4]) Tryz.func63 rfl rfl Tryz.ntmps63 rfl rfl ?_
  simp (maxSteps := 1000000) [go_sem, Bk.val, Value.oneCell']
  refine AWp.draw mixed [(0, false), (1, false), (2, false), (3, false), (4, false), (5, false), (6, false), (7, false), (8, false), (9, false), (10, false), (11, false), (12, false), (13, false), (14, false), (15, false), (16, false), (17, false), (18, false), (19, false), (20, false), (21, false), (22, false), (23, false), (24, false), (25, false), (26, false), (27, false), (28, false), (29, false), (30, false), (31, false), (32, false), (33, false), (34, false)] (by kernel_rfl) ?_
  have keep : GridAt (H ++ [⟨[.int .i64 a, .int .i64 b, .int .i64 c], true, true⟩]) id gs := ⟨Same.get (S := fun _ => False) (Same.of_prefix (List.prefix_append _ _)) hg.1 (fun h => h), hg.2⟩
  have h := h _ (List.prefix_append H [⟨[.int .i64 a, .int .i64 b, .int .i64 c], true, true⟩])
  have c1 : cellsAt _ id (a * 15 + b) 1 = some [.int .i64 (gAt gs a b)] := keep.load (by omega)
  have c2 : cellsAt _ id (a * 15 + c) 1 = some [.int .i64 (gAt gs a c)] := keep.load (by omega)
  have c3 : cellsAt _ id (b * 15 + c) 1 = some [.int .i64 (gAt gs b c)] := keep.load (by omega)
  generalize gAt gs a b = x at c1 h
  generalize gAt gs a c = y at c2 h
  generalize gAt gs b c = z at c3 h
  have ha' : (a : Int) < 15 := by omega
  have hb' : (b : Int) < 15 := by omega
  have hc' : (c : Int) < 15 := by omega
  by_cases hx : x = -1
  · by_cases hy : y = -1
    · by_cases hz : z = -1
      · simp (maxSteps := 1000000) [go_sem, ha, hb, hc, ha', hb', hc', c1, c2, c3, hx, hy, hz]
        simpa [hx, hy, hz] using h
      · have hz' : (z == -1) = false := by simpa using hz
        simp (maxSteps := 1000000) [go_sem, ha, hb, hc, ha', hb', hc', c1, c2, c3, hx, hy, hz']
        simpa [hx, hy, hz] using h
    · have hy' : (y == -1) = false := by simpa using hy
      simp (maxSteps := 1000000) [go_sem, ha, hb, hc, ha', hb', hc', c1, c2, c3, hx, hy']
      simpa [hx, hy] using h
  · have hx' : (x == -1) = false := by simpa using hx
    simp (maxSteps := 1000000) [go_sem, ha, hb, hc, ha', hb', hc', c1, c2, c3, hx']
    simpa [hx] using h

def gPut (is : Bool) (a b c : Nat) : Nat -> List Int -> List Int
  | 0, gs => gs
  | 1, gs => gSet gs a b (if is then (c : Int) else -1)
  | 2, gs => gSet (gSet gs a b (if is then (c : Int) else -1)) b c (if is then (a : Int) else -1)
  | _, gs => gSet (gSet (gSet gs a b (if is then (c : Int) else -1)) b c (if is then (a : Int) else -1)) c a (if is then (b : Int) else -1)

theorem put_ok {H : Heap} {id : Nat} {gs : List Int} {is : Bool} (hg : GridAt H id gs) {a b c : Nat} (ha : a < 15) (hb : b < 15) (hc : c < 15) (Post : Value -> Heap -> Prop)
    (h : ∀ H', Same (fun j => j = id) H H' -> GridAt H' id (gPut is a b c 3 gs) -> Post (.tuple #[]) H') :
    ACalls Tryz.prog 64 [.pointer (some ⟨id, 0, none⟩), (Bk.mk a b c).val, .bool is] H Post := by
  refine acalls_vc (rs := []) Tryz.func64 rfl rfl Tryz.ntmps64 rfl rfl ?_
  simp (maxSteps := 1000000) [go_sem, Bk.val, Value.oneCell']
  have hid : id < H.length := (List.getElem?_eq_some_iff.1 hg.1).1
  have ha' : (a : Int) < 15 := by omega
  have hb' : (b : Int) < 15 := by omega
  have hc' : (c : Int) < 15 := by omega
  refine AWp.loopVc (fun s : Nat => [(0, .pointer (some ⟨id, 0, none⟩)), (2, .bool is), (4, .pointer (some ⟨H.length, 0, none⟩)), (10, .agg #[.int .i64 a, .int .i64 b, .int .i64 c]), (11, .int .i64 s)])
    (fun s H' => s <= 3 /\ Same (fun j => j = id) H H' /\ H'[H.length]? = some ⟨[.int .i64 a, .int .i64 b, .int .i64 c], true, true⟩ /\ GridAt H' id (gPut is a b c s gs)) (fun s => 3 - s) 0 ?_ ?_ ?_
  · simp [upF, Fr.get, Up.refl]
  · exact ⟨by omega, Same.of_prefix (List.prefix_append _ _), by simp, ⟨Same.get (S := fun _ => False) (Same.of_prefix (List.prefix_append _ _)) hg.1 (fun h => h), hg.2⟩⟩
  · rintro K s H' ⟨hs, hsame, hbox, hg⟩ hK
    have : s = 0 \/ s = 1 \/ s = 2 \/ s = 3 := by omega
    rcases this with rfl | rfl | rfl | rfl
    · have hw : IntKind.i64.wrap 1 = 1 := i64w (by omega) (by omega)
      have hm1 : (IntKind.i64.wrap 1).tmod 3 = 1 := by rw [i64w (by omega) (by omega)]; rfl
      have hm2 : (IntKind.i64.wrap 2).tmod 3 = 2 := by rw [i64w (by omega) (by omega)]; rfl
      have hm1' : (1 : Int).tmod 3 = 1 := rfl
      have hm2' : (2 : Int).tmod 3 = 2 := rfl
      obtain ⟨st1, g1⟩ := hg.store (k := a * 15 + b) (by omega) (if is then (c : Int) else -1)
      obtain ⟨st2, g2⟩ := g1.store (k := b * 15 + a) (by omega) (if is then (c : Int) else -1)
      simp only [List.set_set] at st2 g2
      have l0 : cellsAt H' H.length 1 1 = some [.int .i64 b] := Holds.cell ⟨true, hbox⟩ rfl
      have l1 : cellsAt H' H.length 2 1 = some [.int .i64 c] := Holds.cell ⟨true, hbox⟩ rfl
      have fin : ∀ fr', upF _ [(0, .pointer (some ⟨id, 0, none⟩)), (2, .bool is), (4, .pointer (some ⟨H.length, 0, none⟩)), (10, .agg #[.int .i64 a, .int .i64 b, .int .i64 c]), (11, .int .i64 1)] fr' -> K fr' _ := fun fr' hf =>
        hK 1 fr' _ (by omega) hf ⟨by omega, hsame.trans Same.set, by rw [List.getElem?_set_ne (by omega)]; exact hbox, g2⟩
      simp (maxSteps := 1000000) [go_sem, hw, partV]
      refine AWp.draw mixed [(0, false), (1, false), (2, false), (3, false), (4, false), (5, false), (6, false), (7, false), (8, false), (9, false), (10, false), (11, false)] (by kernel_rfl) ?_
      simp (maxSteps := 1000000) [go_sem, hw, hm1, hm2, hm1', hm2', l0, l1]
      refine condK_intro (fun his => ?_) (fun his => ?_)
      · obtain rfl : is = false := by simpa using his
        simp only [Bool.false_eq_true, if_false] at st1 st2 fin
        refine AWp.draw mixed [(0, false), (1, false), (2, false), (3, false), (4, false), (5, false), (6, false), (7, false), (8, false), (10, false), (11, false), (9, false), (12, false), (13, false)] (by kernel_rfl) ?_
        simp (maxSteps := 1000000) [go_sem, hw, hm1, hm2, hm1', hm2', l0, l1, st1, st2, ha', hb', hc', Value.oneCell']
        exact fin _ (by simp [upF, Fr.get, Up.refl])
      · obtain rfl : is = true := by simpa using his
        simp only [if_true] at st1 st2 fin
        refine AWp.draw mixed [(0, false), (1, false), (2, false), (3, false), (4, false), (5, false), (6, false), (7, false), (8, false), (9, false), (10, false), (12, false), (13, false), (11, false), (14, false), (15, false)] (by kernel_rfl) ?_
        simp (maxSteps := 1000000) [go_sem, hw, hm1, hm2, hm1', hm2', l0, l1, st1, st2, ha', hb', hc', Value.oneCell']
        exact fin _ (by simp [upF, Fr.get, Up.refl])
    · have hw : IntKind.i64.wrap 2 = 2 := i64w (by omega) (by omega)
      have hm1 : (IntKind.i64.wrap 2).tmod 3 = 2 := by rw [i64w (by omega) (by omega)]; rfl
      have hm2 : (IntKind.i64.wrap 3).tmod 3 = 0 := by rw [i64w (by omega) (by omega)]; rfl
      have hm1' : (2 : Int).tmod 3 = 2 := rfl
      have hm2' : (3 : Int).tmod 3 = 0 := rfl
      obtain ⟨st1, g1⟩ := hg.store (k := b * 15 + c) (by omega) (if is then (a : Int) else -1)
      obtain ⟨st2, g2⟩ := g1.store (k := c * 15 + b) (by omega) (if is then (a : Int) else -1)
      simp only [List.set_set] at st2 g2
      have l0 : cellsAt H' H.length 2 1 = some [.int .i64 c] := Holds.cell ⟨true, hbox⟩ rfl
      have l1 : cellsAt H' H.length 0 1 = some [.int .i64 a] := Holds.cell ⟨true, hbox⟩ rfl
      have fin : ∀ fr', upF _ [(0, .pointer (some ⟨id, 0, none⟩)), (2, .bool is), (4, .pointer (some ⟨H.length, 0, none⟩)), (10, .agg #[.int .i64 a, .int .i64 b, .int .i64 c]), (11, .int .i64 2)] fr' -> K fr' _ := fun fr' hf =>
        hK 2 fr' _ (by omega) hf ⟨by omega, hsame.trans Same.set, by rw [List.getElem?_set_ne (by omega)]; exact hbox, g2⟩
      simp (maxSteps := 1000000) [go_sem, hw, partV]
      refine AWp.draw mixed [(0, false), (1, false), (2, false), (3, false), (4, false), (5, false), (6, false), (7, false), (8, false), (9, false), (10, false), (11, false)] (by kernel_rfl) ?_
      simp (maxSteps := 1000000) [go_sem, hw, hm1, hm2, hm1', hm2', l0, l1]
      refine condK_intro (fun his => ?_) (fun his => ?_)
      · obtain rfl : is = false := by simpa using his
        simp only [Bool.false_eq_true, if_false] at st1 st2 fin
        refine AWp.draw mixed [(0, false), (1, false), (2, false), (3, false), (4, false), (5, false), (6, false), (7, false), (8, false), (10, false), (11, false), (9, false), (12, false), (13, false)] (by kernel_rfl) ?_
        simp (maxSteps := 1000000) [go_sem, hw, hm1, hm2, hm1', hm2', l0, l1, st1, st2, ha', hb', hc', Value.oneCell']
        exact fin _ (by simp [upF, Fr.get, Up.refl])
      · obtain rfl : is = true := by simpa using his
        simp only [if_true] at st1 st2 fin
        refine AWp.draw mixed [(0, false), (1, false), (2, false), (3, false), (4, false), (5, false), (6, false), (7, false), (8, false), (9, false), (10, false), (12, false), (13, false), (11, false), (14, false), (15, false)] (by kernel_rfl) ?_
        simp (maxSteps := 1000000) [go_sem, hw, hm1, hm2, hm1', hm2', l0, l1, st1, st2, ha', hb', hc', Value.oneCell']
        exact fin _ (by simp [upF, Fr.get, Up.refl])
    · have hw : IntKind.i64.wrap 3 = 3 := i64w (by omega) (by omega)
      have hm1 : (IntKind.i64.wrap 3).tmod 3 = 0 := by rw [i64w (by omega) (by omega)]; rfl
      have hm2 : (IntKind.i64.wrap 4).tmod 3 = 1 := by rw [i64w (by omega) (by omega)]; rfl
      have hm1' : (3 : Int).tmod 3 = 0 := rfl
      have hm2' : (4 : Int).tmod 3 = 1 := rfl
      obtain ⟨st1, g1⟩ := hg.store (k := c * 15 + a) (by omega) (if is then (b : Int) else -1)
      obtain ⟨st2, g2⟩ := g1.store (k := a * 15 + c) (by omega) (if is then (b : Int) else -1)
      simp only [List.set_set] at st2 g2
      have l0 : cellsAt H' H.length 0 1 = some [.int .i64 a] := Holds.cell ⟨true, hbox⟩ rfl
      have l1 : cellsAt H' H.length 1 1 = some [.int .i64 b] := Holds.cell ⟨true, hbox⟩ rfl
      have fin : ∀ fr', upF _ [(0, .pointer (some ⟨id, 0, none⟩)), (2, .bool is), (4, .pointer (some ⟨H.length, 0, none⟩)), (10, .agg #[.int .i64 a, .int .i64 b, .int .i64 c]), (11, .int .i64 3)] fr' -> K fr' _ := fun fr' hf =>
        hK 3 fr' _ (by omega) hf ⟨by omega, hsame.trans Same.set, by rw [List.getElem?_set_ne (by omega)]; exact hbox, g2⟩
      simp (maxSteps := 1000000) [go_sem, hw, partV]
      refine AWp.draw mixed [(0, false), (1, false), (2, false), (3, false), (4, false), (5, false), (6, false), (7, false), (8, false), (9, false), (10, false), (11, false)] (by kernel_rfl) ?_
      simp (maxSteps := 1000000) [go_sem, hw, hm1, hm2, hm1', hm2', l0, l1]
      refine condK_intro (fun his => ?_) (fun his => ?_)
      · obtain rfl : is = false := by simpa using his
        simp only [Bool.false_eq_true, if_false] at st1 st2 fin
        refine AWp.draw mixed [(0, false), (1, false), (2, false), (3, false), (4, false), (5, false), (6, false), (7, false), (8, false), (10, false), (11, false), (9, false), (12, false), (13, false)] (by kernel_rfl) ?_
        simp (maxSteps := 1000000) [go_sem, hw, hm1, hm2, hm1', hm2', l0, l1, st1, st2, ha', hb', hc', Value.oneCell']
        exact fin _ (by simp [upF, Fr.get, Up.refl])
      · obtain rfl : is = true := by simpa using his
        simp only [if_true] at st1 st2 fin
        refine AWp.draw mixed [(0, false), (1, false), (2, false), (3, false), (4, false), (5, false), (6, false), (7, false), (8, false), (9, false), (10, false), (12, false), (13, false), (11, false), (14, false), (15, false)] (by kernel_rfl) ?_
        simp (maxSteps := 1000000) [go_sem, hw, hm1, hm2, hm1', hm2', l0, l1, st1, st2, ha', hb', hc', Value.oneCell']
        exact fin _ (by simp [upF, Fr.get, Up.refl])
    · simp (maxSteps := 1000000) [go_sem]
      exact h H' hsame hg

end Go.Proofs.YtkimaohcmcfcnaaGreat
end

section
namespace Go.Proofs.YtkimaohcmcfcnaaGreat
open Go.Ab

theorem GridAt.keep {H H' : Heap} {id : Nat} {gs : List Int} (h : GridAt H id gs) (hp : H <+: H') : GridAt H' id gs :=
  ⟨Same.get (S := fun _ => False) (Same.of_prefix hp) h.1 (fun h => h), h.2⟩

theorem good_nat {v : Int} {b : Bk} (h : good v b = true) (hv : v <= 15) : ∃ x y z : Nat, b = ⟨x, y, z⟩ /\ x < y /\ y < z /\ z < 15 := by
  rw [good_iff] at h
  obtain ⟨a, b, c⟩ := b
  simp only at h
  exact ⟨a.toNat, b.toNat, c.toNat, by simp only [Bk.mk.injEq]; omega, by omega, by omega, by omega⟩

theorem gridOf_ok {H : Heap} {u : Value} {bs : List Bk} (hu : BlocksAt H u bs) (hg : ∀ x ∈ bs, good 15 x = true) (Post : Value -> Heap -> Prop)
    (hbad : ∀ H', H <+: H' -> ¬ Fits bs -> Post (.tuple #[.pointer none, .bool false]) H')
    (hgood : ∀ H' id gs, H <+: H' -> H.length <= id -> GridAt H' id gs -> GridOf gs bs -> Fits bs -> Post (.tuple #[.pointer (some ⟨id, 0, none⟩), .bool true]) H') :
    ACalls Tryz.prog 43 [u] H Post := by
  obtain ⟨i, o, rfl, h1, h2⟩ := hu
  refine acalls_vc (rs := [.tmp 2, .tmp 3]) Tryz.func43 rfl rfl Tryz.ntmps43 rfl rfl ?_
  simp (maxSteps := 1000000) [go_sem]
  refine newGrid_ok _ ?_
  intro H0 id hp0 hid hg0
  simp (maxSteps := 1000000) [go_sem]
  refine AWp.loopVc (St := Nat × List Int) (fun s => [(4, .pointer (some ⟨id, 0, none⟩)), (8, lv 3 i o bs.length), (9, .int .i64 bs.length), (10, .int .i64 s.1)])
    (fun s H' => s.1 <= bs.length /\ H <+: H' /\ GridAt H' id s.2 /\ GridOf s.2 (bs.take s.1) /\ Fits (bs.take s.1)) (fun s => bs.length - s.1) (0, List.replicate 225 (-1)) ?_ ?_ ?_
  · simp [upF, Fr.get, Up.refl]
  · refine ⟨by simp, hp0, hg0, by simpa using gridOf_nil, ?_⟩
    intro i k x y hk hx; simp at hx
  · rintro K ⟨s, gs⟩ H' ⟨hs, hp, hgr, hof, hfit⟩ hK
    simp only at hs hgr hof hfit
    by_cases hlt : s < bs.length
    · have hbs : bs[s]? = some bs[s] := List.getElem?_eq_getElem hlt
      have c1 := (h1.pre hp).bk hbs
      obtain ⟨a, b, c, hb, hab, hbc, hc⟩ := good_nat (hg _ (List.mem_of_getElem? hbs)) (by omega)
      have hgt : ∀ x ∈ bs.take s, good 15 x = true := fun x hx => hg x (List.mem_of_mem_take hx)
      have htake : bs.take (s + 1) = bs.take s ++ [⟨a, b, c⟩] := by rw [List.take_succ_eq_append_getElem hlt, hb]
      have hgb : good 15 ⟨a, b, c⟩ = true := by rw [good_iff]; simp only; omega
      rw [hb] at c1
      simp only [Bk.cells] at c1
      have hw_s : IntKind.i64.wrap ((s : Int) + 1) = (s : Int) + 1 := i64w (by omega) (by omega)
      simp (maxSteps := 1000000) [go_sem, hlt, c1, Value.oneCell']
      have hp2 : H' <+: H' ++ [⟨[.int .i64 a, .int .i64 b, .int .i64 c], true, true⟩] := List.prefix_append _ _
      have hbox : (H' ++ [(⟨[.int .i64 a, .int .i64 b, .int .i64 c], true, true⟩ : Blk)])[H'.length]? = some ⟨[.int .i64 a, .int .i64 b, .int .i64 c], true, true⟩ := by simp
      refine isLeft_ok (hgr.keep hp2) (by omega) (by omega) hc _ ?_
      intro H3 hp3
      rw [gridOf_left hof hab hbc hc]
      have d1 : cellsAt H3 H'.length 0 3 = some [.int .i64 a, .int .i64 b, .int .i64 c] := by
        have := Holds.cells (n := 3) (o := 0) ⟨true, pget hp3 hbox⟩ (by simp)
        simpa using this
      cases hl : leftB (bs.take s) ⟨a, b, c⟩ with
      | false =>
        simp (maxSteps := 1000000) [go_sem]
        refine hbad H3 (hp.trans (hp2.trans hp3)) (fun hF => ?_)
        have := (leftB_iff hgt hgb).2 (fits_snoc.1 (htake ▸ fits_take hF (s + 1))).2
        rw [hl] at this; cases this
      | true =>
        simp (maxSteps := 1000000) [go_sem, d1]
        refine put_ok ((hgr.keep hp2).keep hp3) (by omega) (by omega) hc _ ?_
        intro H4 hs4 hg4
        simp (maxSteps := 1000000) [go_sem, hw_s]
        refine hK (s + 1, gPut true a b c 3 gs) _ _ (by simp only; omega) (by simp [upF, Fr.get, Up.refl]) ⟨by simp only; omega, ?_, hg4, ?_, ?_⟩
        · exact ((Same.of_prefix (hp.trans (hp2.trans hp3))).trans hs4).prefix (by omega)
        · simp only [htake]; exact gridOf_snoc hof hgt hab hbc hc hl
        · simp only [htake]; exact fits_snoc.2 ⟨hfit, (leftB_iff hgt hgb).1 hl⟩
    · have : s = bs.length := by omega
      subst this
      simp (maxSteps := 1000000) [go_sem]
      rw [List.take_length] at hof hfit
      exact hgood H' id gs hp hid hgr hof hfit

theorem sorted_snoc {p : Int} {bs : List Bk} {s : Nat} (hs : s < bs.length) (h : ∀ (a : Nat) (x : Bk), a < s -> bs[a]? = some x -> good p x = true /\ ∀ y, 0 < a -> bs[a - 1]? = some y -> before y x = true)
    (hg : good p bs[s] = true) (hb : ∀ y, 0 < s -> bs[s - 1]? = some y -> before y bs[s] = true) : ∀ (a : Nat) (x : Bk), a < s + 1 -> bs[a]? = some x -> good p x = true /\ ∀ y, 0 < a -> bs[a - 1]? = some y -> before y x = true := by
  intro a x ha hx
  by_cases e : a = s
  · subst e
    rw [List.getElem?_eq_getElem hs] at hx; cases hx
    exact ⟨hg, hb⟩
  · exact h a x (by omega) hx

theorem areBlocks_ok {H : Heap} {u : Value} {p : Int} {bs : List Bk} (hu : BlocksAt H u bs) (Post : Value -> Heap -> Prop) (h : ∀ H' b, H <+: H' -> (b = true ↔ IsSys p bs) -> Post (.bool b) H') :
    ACalls Tryz.prog 23 [.int .i64 p, u] H Post := by
  obtain ⟨i, o, rfl, h1, h2⟩ := hu
  refine acalls_vc (rs := [.tmp 4]) Tryz.func23 rfl rfl Tryz.ntmps23 rfl rfl ?_
  simp (maxSteps := 1000000) [go_sem]
  refine within_ok _ ?_
  by_cases hin : 3 <= p /\ p <= 15
  · by_cases hl35 : bs.length <= 35
    · have hgt : ¬ ((35 : Int) < bs.length) := by omega
      simp (maxSteps := 1000000) [go_sem, hin.1, hin.2, hgt]
      refine AWp.loopVc (fun s : Nat => [(0, .int .i64 p), (1, lv 3 i o bs.length), (17, lv 3 i o bs.length), (18, .int .i64 bs.length), (19, .int .i64 s)])
        (fun s H' => s <= bs.length /\ H <+: H' /\ ∀ (a : Nat) (x : Bk), a < s -> bs[a]? = some x -> good p x = true /\ ∀ y, 0 < a -> bs[a - 1]? = some y -> before y x = true) (fun s => bs.length - s) 0 ?_ ?_ ?_
      · simp [upF, Fr.get, Up.refl]
      · exact ⟨by omega, List.prefix_refl _, by intro a x ha; omega⟩
      · rintro K s H' ⟨hs, hp, hf⟩ hK
        by_cases hlt : s < bs.length
        · have hbs : bs[s]? = some bs[s] := List.getElem?_eq_getElem hlt
          have c1 := (h1.pre hp).bk hbs
          simp only [Bk.cells] at c1
          have hw_s : IntKind.i64.wrap ((s : Int) + 1) = (s : Int) + 1 := i64w (by omega) (by omega)
          simp (maxSteps := 1000000) [go_sem, hlt, c1, Value.oneCell']
          refine AWp.draw mixed [(0, false), (1, false), (2, false), (3, false), (4, false), (5, false), (6, false), (7, false), (8, false), (9, false), (10, false), (11, false), (12, false), (13, false), (14, false), (15, false), (16, false), (17, false)] (by kernel_rfl) ?_
          simp (maxSteps := 1000000) [go_sem]
          refine isBlock_ok (b := bs[s]) (by omega) (by omega) _ ?_
          intro H2 hp2
          have hp2' : H' <+: H2 := (List.prefix_append _ _).trans hp2
          have hbox : H2[H'.length]? = some ⟨[.int .i64 bs[s].a, .int .i64 bs[s].b, .int .i64 bs[s].c], true, true⟩ := pget hp2 (by simp)
          have d1 : cellsAt H2 H'.length 0 3 = some [.int .i64 bs[s].a, .int .i64 bs[s].b, .int .i64 bs[s].c] := by
            simpa using Holds.cells (n := 3) (o := 0) ⟨true, hbox⟩ (by simp)
          by_cases hg : good p bs[s] = true
          · by_cases h0 : s = 0
            · subst h0
              simp (maxSteps := 1000000) [go_sem, hg, i64w (n := 1)]
              exact hK 1 _ _ (by omega) (by simp [upF, Fr.get, Up.refl]) ⟨by omega, hp.trans hp2', sorted_snoc hlt hf hg (by intro y hy; omega)⟩
            · obtain ⟨r, rfl⟩ : ∃ r, s = r + 1 := ⟨s - 1, by omega⟩
              have hbr : bs[r]? = some (bs[r]'(by omega)) := List.getElem?_eq_getElem _
              have e2 := (h1.pre (hp.trans hp2')).bk hbr
              simp only [Bk.cells] at e2
              have hr : r < bs.length := by omega
              have hw3 : IntKind.i64.wrap (r : Int) = (r : Int) := i64w (by omega) (by omega)
              have hw4 : IntKind.i64.wrap ((r : Int) + 1 + 1) = (r : Int) + 1 + 1 := i64w (by omega) (by omega)
              simp (maxSteps := 1000000) [go_sem, hg, d1, e2, hlt, hr, hw3]
              refine compare_ok (b := bs[r]'(by omega)) (d := bs[r + 1]) _ ?_
              intro H3 hp3
              by_cases hbf : before (bs[r]'(by omega)) bs[r + 1] = true
              · have hlx : decide (0 <= lexC [(bs[r]'(by omega)).a, (bs[r]'(by omega)).b, (bs[r]'(by omega)).c] [bs[r + 1].a, bs[r + 1].b, bs[r + 1].c]) = false := by
                  rw [decide_eq_false_iff_not, lexC_block, hbf]; simp
                simp (maxSteps := 1000000) [go_sem, hlx, hw4]
                refine hK (r + 1 + 1) _ _ (by omega) (by simp [upF, Fr.get, Up.refl]) ⟨by omega, hp.trans (hp2'.trans hp3), sorted_snoc hlt hf hg ?_⟩
                intro y _ hy
                simp only [Nat.add_sub_cancel] at hy
                rw [hbr] at hy; cases hy; exact hbf
              · have hlx : decide (0 <= lexC [(bs[r]'(by omega)).a, (bs[r]'(by omega)).b, (bs[r]'(by omega)).c] [bs[r + 1].a, bs[r + 1].b, bs[r + 1].c]) = true := by
                  rw [decide_eq_true_eq, lexC_block]; simpa using hbf
                simp (maxSteps := 1000000) [go_sem, hlx]
                refine h H3 false (hp.trans (hp2'.trans hp3)) ⟨by simp, fun hS => ?_⟩
                exact absurd ((hS.2.2.1 (r + 1) _ hbs).2 _ (by omega) (by simpa using hbr)) hbf
          · simp (maxSteps := 1000000) [go_sem, hg]
            refine h H2 false (hp.trans hp2') ⟨by simp, fun hS => ?_⟩
            exact absurd (hS.2.2.1 s _ hbs).1 hg
        · have : s = bs.length := by omega
          subst this
          have hso : Sorted p bs := fun a x hx => hf a x (List.getElem?_eq_some_iff.1 hx).1 hx
          have hg15 : ∀ x ∈ bs, good 15 x = true := by
            intro x hx
            obtain ⟨k, hk⟩ := List.mem_iff_getElem?.1 hx
            have := (hso k x hk).1
            rw [good_iff] at this ⊢; omega
          simp (maxSteps := 1000000) [go_sem]
          refine gridOf_ok ⟨i, o, rfl, h1.pre hp, h2⟩ hg15 _ (fun H2 hp2 hn => ?_) (fun H2 id gs hp2 _ _ _ hF => ?_)
          · simp (maxSteps := 1000000) [go_sem]
            exact h H2 false (hp.trans hp2) ⟨by simp, fun hS => absurd hS.2.2.2 hn⟩
          · simp (maxSteps := 1000000) [go_sem]
            exact h H2 true (hp.trans hp2) ⟨fun _ => ⟨hin, hl35, hso, hF⟩, fun _ => rfl⟩
    · have hgt : (35 : Int) < bs.length := by omega
      simp (maxSteps := 1000000) [go_sem, hin.1, hin.2, hgt]
      exact h H false (List.prefix_refl _) ⟨by simp, fun hS => absurd hS.2.1 hl35⟩
  · have hn : (decide (3 <= p) && decide (p <= 15)) = false := by simp; omega
    rw [hn]
    simp (maxSteps := 1000000) [go_sem]
    exact h H false (List.prefix_refl _) ⟨by simp, fun hS => absurd hS.1 hin⟩

end Go.Proofs.YtkimaohcmcfcnaaGreat
end

section
namespace Go.Proofs.YtkimaohcmcfcnaaGreat
open Go.Ab

noncomputable def sysB (p : Int) (bs : List Bk) : Bool := @decide (IsSys p bs) (Classical.propDecidable _)
theorem sysB_iff {p : Int} {bs : List Bk} : sysB p bs = true ↔ IsSys p bs := by simp [sysB]
theorem sysB_eq {p : Int} {bs : List Bk} {b : Bool} (h : b = true ↔ IsSys p bs) : b = sysB p bs := by
  cases hs : sysB p bs with
  | true => exact h.2 (sysB_iff.1 hs)
  | false =>
    cases b with
    | false => rfl
    | true => exact absurd (sysB_iff.2 (h.1 rfl)) (by simp [hs])

theorem l01Is' {H : Heap} {u : Value} {p : Int} {bs : List Bk} (hu : BlocksAt H u bs) (hl : bs.length <= 1048576) (Post : Value -> Heap -> Prop) (h : ∀ H', H <+: H' -> Post (.bool (sysB p bs)) H') :
    ACalls Tryz.prog 33 [sysV p u] H Post := l01Is_ok hu hl Post fun H' b hp hb => sysB_eq hb ▸ h H' hp
def fullB (p : Int) (bs : List Bk) : Bool := decide (6 * (bs.length : Int) = p * (p - 1))

theorem pp_bound {p : Int} (h : 3 <= p /\ p <= 15) : 0 <= p * (p - 1) /\ p * (p - 1) <= 225 := by
  obtain ⟨n, rfl⟩ : ∃ n : Nat, p = n := ⟨p.toNat, by omega⟩
  have : n = 3 \/ n = 4 \/ n = 5 \/ n = 6 \/ n = 7 \/ n = 8 \/ n = 9 \/ n = 10 \/ n = 11 \/ n = 12 \/ n = 13 \/ n = 14 \/ n = 15 := by omega
  rcases this with rfl | rfl | rfl | rfl | rfl | rfl | rfl | rfl | rfl | rfl | rfl | rfl | rfl <;> decide

theorem l01Full_ok {H : Heap} {u : Value} {p : Int} {bs : List Bk} (hu : BlocksAt H u bs) (hp : 3 <= p /\ p <= 15) (hl : bs.length <= 1048576) (Post : Value -> Heap -> Prop) (h : ∀ H', H <+: H' -> Post (.bool (fullB p bs)) H') :
    ACalls Tryz.prog 77 [sysV p u] H Post := by
  obtain ⟨i, o, rfl, h1, h2⟩ := hu
  refine acalls_vc (rs := [.tmp 2]) Tryz.func77 rfl rfl Tryz.ntmps77 rfl rfl ?_
  have hb := pp_bound hp
  have w1 : IntKind.i64.wrap (6 * (bs.length : Int)) = 6 * (bs.length : Int) := i64w (by omega) (by omega)
  have w2 : IntKind.i64.wrap (p - 1) = p - 1 := i64w (by omega) (by omega)
  have w3 : IntKind.i64.wrap (p * (p - 1)) = p * (p - 1) := i64w (by omega) (by omega)
  have h := h _ (List.prefix_append H [⟨[.int .i64 p, lv 3 i o bs.length], true, true⟩])
  simp (maxSteps := 1000000) [go_sem, sysV, Value.oneCell', w1, w2, w3]
  exact h

theorem pre_box {H H' : Heap} {b : Blk} (hp : H ++ [b] <+: H') : H <+: H' := (List.prefix_append _ _).trans hp

end Go.Proofs.YtkimaohcmcfcnaaGreat
end

section
namespace Go.Proofs.YtkimaohcmcfcnaaGreat
open Go.Ab

def OwnInts (H : Heap) (v : Value) (id : Nat) (xs : List Int) : Prop := v = lv 1 id 0 xs.length /\ (xs = [] \/ H[id]? = some ⟨ints xs, true, true⟩) /\ xs.length <= 140737488355328
theorem OwnInts.read {H : Heap} {v : Value} {id : Nat} {xs : List Int} (h : OwnInts H v id xs) : IntsAt H v xs := by
  obtain ⟨h1, h2, h3⟩ := h
  refine ⟨id, 0, h1, ?_, h3⟩
  rcases h2 with rfl | h2
  · exact .inl rfl
  · exact Holds.at ⟨true, h2⟩
theorem OwnInts.keep {H H' : Heap} {v : Value} {id : Nat} {xs : List Int} (h : OwnInts H v id xs) {S : Nat -> Prop} (hs : Same S H H') (hi : ¬ S id) : OwnInts H' v id xs :=
  ⟨h.1, h.2.1.imp (fun h => h) fun hb => hs.get hb hi, h.2.2⟩
theorem _root_.Go.Ab.OwnBlocks.of_ol {H : Heap} {id : Nat} {bs : List Bk} (h : OL 3 H id (tri bs) bs.length) (hl : bs.length <= 140737488355328) : OwnBlocks H (lv 3 id 0 bs.length) id bs :=
  ⟨rfl, h.2.imp (fun h => List.eq_nil_of_length_eq_zero h.1) (fun h => h), hl⟩
theorem _root_.Go.Ab.OwnBlocks.lt {H : Heap} {v : Value} {id : Nat} {bs : List Bk} (h : OwnBlocks H v id bs) : bs = [] \/ id < H.length := h.2.1.imp (fun h => h) fun h => (List.getElem?_eq_some_iff.1 h).1

theorem _root_.Go.Ab.Holds.keepS {H H' : Heap} {i : Nat} {cs : List Value} (h : Holds H i cs) {S : Nat -> Prop} (hs : Same S H H') (hi : ¬ S i) : Holds H' i cs := by
  obtain ⟨o, h⟩ := h; exact ⟨o, hs.get h hi⟩
theorem _root_.Go.Ab.Holds.sys {H : Heap} {i : Nat} {p : Int} {u : Value} (h : Holds H i [.int .i64 p, u]) : cellsAt H i 0 2 = some [.int .i64 p, u] /\ cellsAt H i 0 1 = some [.int .i64 p] /\ cellsAt H i 1 1 = some [u] :=
  ⟨by simpa using h.cells (n := 2) (o := 0) (by simp), h.cell rfl, h.cell rfl⟩
theorem _root_.Go.Ab.Holds.bk {H : Heap} {i : Nat} {a b c : Int} (h : Holds H i [.int .i64 a, .int .i64 b, .int .i64 c]) : cellsAt H i 0 3 = some [.int .i64 a, .int .i64 b, .int .i64 c] /\ cellsAt H i 0 1 = some [.int .i64 a] /\ cellsAt H i 1 1 = some [.int .i64 b] /\ cellsAt H i 2 1 = some [.int .i64 c] :=
  ⟨by simpa using h.cells (n := 3) (o := 0) (by simp), h.cell rfl, h.cell rfl, h.cell rfl⟩
theorem _root_.Go.Ab.Holds.last (H : Heap) (cs : List Value) : Holds (H ++ [⟨cs, true, true⟩]) H.length cs := ⟨true, by simp⟩

end Go.Proofs.YtkimaohcmcfcnaaGreat
end

section
namespace Go.Proofs.YtkimaohcmcfcnaaGreat
open Go.Ab

theorem _root_.Go.Ab.IsSys.good {p : Int} {bs : List Bk} (h : IsSys p bs) : ∀ x ∈ bs, good p x = true := by
  intro x hx
  obtain ⟨k, hk⟩ := List.mem_iff_getElem?.1 hx
  exact (h.2.2.1 k x hk).1
theorem _root_.Go.Ab.IsSys.good15 {p : Int} {bs : List Bk} (h : IsSys p bs) : ∀ x ∈ bs, Ab.good 15 x = true := by
  intro x hx
  have := h.good x hx
  have := h.1
  rw [good_iff] at *
  omega
theorem sysB_of {p : Int} {bs : List Bk} (h : sysB p bs = true) : IsSys p bs := sysB_iff.1 h

def inP (p x : Int) : Bool := decide (0 <= x) && decide (x <= p - 1)
theorem inP_iff {p x : Int} : inP p x = true ↔ 0 <= x /\ x <= p - 1 := by simp [inP]
theorem l01With_ok {H : Heap} {b : Bk} {p : Int} (Post : Value -> Heap -> Prop) (h : ∀ H', H <+: H' -> Post (.bool (b.has p)) H') :
    ACalls Tryz.prog 83 [b.val, .int .i64 p] H Post := by
  refine acalls_vc (rs := [.tmp 4]) Tryz.func83 rfl rfl Tryz.ntmps83 rfl rfl ?_
  obtain ⟨a, b, c⟩ := b
  have h := h _ (List.prefix_append H [⟨[.int .i64 a, .int .i64 b, .int .i64 c], true, true⟩])
  simp only [Bk.has] at h
  by_cases h1 : a = p
  · have e1 : (a == p) = true := by simpa using h1
    simp (maxSteps := 1000000) [go_sem, Bk.val, e1]
    simpa [h1] using h
  · have e1 : (a == p) = false := by simpa using h1
    by_cases h2 : b = p
    · have e2 : (b == p) = true := by simpa using h2
      simp (maxSteps := 1000000) [go_sem, Bk.val, e1, e2]
      simpa [h1, h2] using h
    · have e2 : (b == p) = false := by simpa using h2
      simp (maxSteps := 1000000) [go_sem, Bk.val, e1, e2]
      have e3 : (c == p) = decide (c = p) := rfl
      rw [e3]
      simpa [h1, h2] using h

theorem l01Third_ok {H : Heap} {u : Value} {p q r : Int} {bs : List Bk} (hu : BlocksAt H u bs) (hg : ∀ x ∈ bs, good 15 x = true) (Post : Value -> Heap -> Prop) (h : ∀ H', H <+: H' -> Post (.int .i64 (third bs q r)) H') :
    ACalls Tryz.prog 73 [sysV p u, .int .i64 q, .int .i64 r] H Post := by
  obtain ⟨i, o, rfl, h1, h2⟩ := hu
  refine acalls_vc (rs := [.tmp 6]) Tryz.func73 rfl rfl Tryz.ntmps73 rfl rfl ?_
  simp (maxSteps := 1000000) [go_sem, sysV]
  have hx0 := Holds.last H [.int .i64 p, lv 3 i o bs.length]
  have hp0 : H <+: H ++ [⟨[.int .i64 p, lv 3 i o bs.length], true, true⟩] := List.prefix_append _ _
  generalize H ++ [(⟨[.int .i64 p, lv 3 i o bs.length], true, true⟩ : Blk)] = H0 at hx0 hp0 ⊢
  refine AWp.loopVc (fun s : Nat => [(1, .int .i64 q), (2, .int .i64 r), (3, .pointer (some ⟨H.length, 0, none⟩)), (7, .int .i64 s)])
    (fun s H' => s <= bs.length /\ H0 <+: H' /\ (bs.take s).find? (fun c => c.has q && c.has r) = none) (fun s => bs.length - s) 0 ?_ ?_ ?_
  · simp [upF, Fr.get, Up.refl]
  · exact ⟨by omega, List.prefix_refl _, by simp⟩
  · rintro K s H' ⟨hs, hp, hf⟩ hK
    obtain ⟨d0, d1, d2⟩ := (hx0.pre hp).sys
    by_cases hlt : s < bs.length
    · have hbs : bs[s]? = some bs[s] := List.getElem?_eq_getElem hlt
      have c1 := (h1.pre (hp0.trans hp)).bk hbs
      simp only [Bk.cells] at c1
      have hw_s : IntKind.i64.wrap ((s : Int) + 1) = (s : Int) + 1 := i64w (by omega) (by omega)
      have hsucc : (bs.take (s + 1)).find? (fun c => c.has q && c.has r) = if bs[s].has q && bs[s].has r then some bs[s] else none := by
        rw [List.take_succ_eq_append_getElem hlt, List.find?_append, hf, List.find?_cons]
        cases bs[s].has q && bs[s].has r <;> rfl
      simp (maxSteps := 1000000) [go_sem, hlt, d2, c1]
      have hb0 := Holds.last H' [.int .i64 bs[s].a, .int .i64 bs[s].b, .int .i64 bs[s].c]
      refine l01With_ok (b := bs[s]) _ ?_
      intro H2 hp2
      obtain ⟨e0, e1, e2, e3⟩ := (hb0.pre hp2).bk
      cases hq : bs[s].has q with
      | false =>
        simp (maxSteps := 1000000) [go_sem, hw_s]
        exact hK (s + 1) _ _ (by omega) (by simp [upF, Fr.get, Up.refl]) ⟨by omega, hp.trans (pre_box hp2), by rw [hsucc, hq]; rfl⟩
      | true =>
        simp (maxSteps := 1000000) [go_sem, e0]
        refine l01With_ok (b := bs[s]) _ ?_
        intro H3 hp3
        obtain ⟨f0, f1, f2, f3⟩ := (hb0.pre (hp2.trans hp3)).bk
        cases hr : bs[s].has r with
        | false =>
          simp (maxSteps := 1000000) [go_sem, hw_s]
          exact hK (s + 1) _ _ (by omega) (by simp [upF, Fr.get, Up.refl]) ⟨by omega, hp.trans ((pre_box hp2).trans hp3), by rw [hsucc, hq, hr]; rfl⟩
        | true =>
          have hgd := hg _ (List.mem_of_getElem? hbs)
          rw [good_iff] at hgd
          rw [Bk.has_iff] at hq hr
          have w1 : IntKind.i64.wrap (bs[s].a + bs[s].b) = bs[s].a + bs[s].b := i64w (by omega) (by omega)
          have w2 : IntKind.i64.wrap (bs[s].a + bs[s].b + bs[s].c) = bs[s].a + bs[s].b + bs[s].c := i64w (by omega) (by omega)
          have w3 : IntKind.i64.wrap (bs[s].a + bs[s].b + bs[s].c - q) = bs[s].a + bs[s].b + bs[s].c - q := i64w (by omega) (by omega)
          have w4 : IntKind.i64.wrap (bs[s].a + bs[s].b + bs[s].c - q - r) = bs[s].a + bs[s].b + bs[s].c - q - r := i64w (by omega) (by omega)
          simp (maxSteps := 1000000) [go_sem, f1, f2, f3, w1, w2, w3, w4]
          have := h H3 (hp0.trans (hp.trans ((pre_box hp2).trans hp3)))
          rw [<- Bk.has_iff] at hq hr
          have ht : third bs q r = bs[s].a + bs[s].b + bs[s].c - q - r := by
            have e : bs = bs.take (s + 1) ++ bs.drop (s + 1) := (List.take_append_drop _ _).symm
            unfold third
            conv => lhs; rw [e]
            rw [List.find?_append, hsucc, hq, hr]; rfl
          rw [ht] at this; exact this
    · have : s = bs.length := by omega
      subst this
      rw [List.take_length] at hf
      simp (maxSteps := 1000000) [go_sem, d2]
      have := h H' (hp0.trans hp)
      unfold third at this
      rw [hf] at this; exact this

noncomputable def ptsCode (p : Int) (bs : List Bk) (xs : List Int) : Int := if sysB p bs then (if xs.all (inP p) then 0 else 2) else 1

theorem l01Points_ok {H : Heap} {u v : Value} {p : Int} {bs : List Bk} {xs : List Int} (hu : BlocksAt H u bs) (hl : bs.length <= 1048576) (hv : IntsAt H v xs) (Post : Value -> Heap -> Prop) (h : ∀ H', H <+: H' -> Post (.int .i64 (ptsCode p bs xs)) H') :
    ACalls Tryz.prog 76 [sysV p u, v] H Post := by
  obtain ⟨i, o, rfl, h1, h2⟩ := hv
  refine acalls_vc (rs := [.tmp 4]) Tryz.func76 rfl rfl Tryz.ntmps76 rfl rfl ?_
  simp (maxSteps := 1000000) [go_sem, sysV, hu.one]
  refine l01Is' (hu.pre (List.prefix_append _ _)) hl _ ?_
  intro H1 hp1
  have hx1 := (Holds.last H [.int .i64 p, u]).pre hp1
  cases hs : sysB p bs with
  | false =>
    simp (maxSteps := 1000000) [go_sem]
    simpa [ptsCode, hs] using h H1 (pre_box hp1)
  | true =>
    have hp := (sysB_of hs).1
    simp (maxSteps := 1000000) [go_sem]
    refine AWp.loopVc (fun s : Nat => [(1, lv 1 i o xs.length), (2, .pointer (some ⟨H.length, 0, none⟩)), (5, .int .i64 s)])
      (fun s H' => s <= xs.length /\ H1 <+: H' /\ (xs.take s).all (inP p) = true) (fun s => xs.length - s) 0 ?_ ?_ ?_
    · simp [upF, Fr.get, Up.refl]
    · exact ⟨by omega, List.prefix_refl _, by simp⟩
    · rintro K s H' ⟨hs', hp', hf⟩ hK
      obtain ⟨d0, d1, d2⟩ := (hx1.pre hp').sys
      by_cases hlt : s < xs.length
      · have c1 := (h1.pre ((pre_box hp1).trans hp')).cell (k := s) (v := .int .i64 xs[s]) (by simp [ints_get, hlt])
        have hw_s : IntKind.i64.wrap ((s : Int) + 1) = (s : Int) + 1 := i64w (by omega) (by omega)
        have hw2 : IntKind.i64.wrap (p - 1) = p - 1 := i64w (by omega) (by omega)
        simp (maxSteps := 1000000) [go_sem, hlt]
        refine AWp.draw mixed [(0, false), (1, false), (2, false), (3, false), (4, false), (5, false), (6, false), (7, false), (8, false)] (by kernel_rfl) ?_
        simp (maxSteps := 1000000) [go_sem, hlt, c1, d1, hw2]
        refine l01In_ok _ ?_
        cases hin : inP p xs[s] with
        | true =>
          have hin' := hin
          unfold inP at hin'
          rw [hin']
          simp (maxSteps := 1000000) [go_sem, hw_s]
          refine hK (s + 1) _ _ (by omega) (by simp [upF, Fr.get, Up.refl]) ⟨by omega, hp', ?_⟩
          rw [List.take_succ_eq_append_getElem hlt, List.all_append, hf]; simp [hin]
        | false =>
          have hin' := hin
          unfold inP at hin'
          rw [hin']
          simp (maxSteps := 1000000) [go_sem]
          have : xs.all (inP p) = false := by
            rw [List.all_eq_false]; exact ⟨xs[s], List.getElem_mem hlt, by simp [hin]⟩
          simpa [ptsCode, hs, this] using h H' ((pre_box hp1).trans hp')
      · have : s = xs.length := by omega
        subst this
        rw [List.take_length] at hf
        simp (maxSteps := 1000000) [go_sem]
        simpa [ptsCode, hs, hf] using h H' ((pre_box hp1).trans hp')

end Go.Proofs.YtkimaohcmcfcnaaGreat
end

section
namespace Go.Ab

def upTo (lo hi : Nat) : List Nat := List.range' lo (hi - lo)
theorem upTo_succ {lo k : Nat} (h : lo <= k) : upTo lo (k + 1) = upTo lo k ++ [k] := by
  unfold upTo
  rw [show k + 1 - lo = (k - lo) + 1 by omega, List.range'_concat]
  congr 2; omega
theorem upTo_self {lo k : Nat} (h : k <= lo) : upTo lo k = [] := by
  unfold upTo; rw [show k - lo = 0 by omega]; rfl
theorem mem_upTo {lo hi k : Nat} : k ∈ upTo lo hi ↔ lo <= k /\ k < hi := by
  unfold upTo; rw [List.mem_range'_1]; omega
theorem upTo_length (lo hi : Nat) : (upTo lo hi).length = hi - lo := by simp [upTo]

def trip2 (v a b : Nat) (hi : Nat) : List Bk := (upTo (b + 1) hi).map fun c : Nat => ⟨a, b, c⟩
def trip1 (v a : Nat) (hi : Nat) : List Bk := (upTo (a + 1) hi).flatMap fun b => trip2 v a b v
def trip0 (v : Nat) (hi : Nat) : List Bk := (upTo 0 hi).flatMap fun a => trip1 v a v
def triples (v : Nat) : List Bk := trip0 v v

theorem trip2_succ {v a b k : Nat} (h : b + 1 <= k) : trip2 v a b (k + 1) = trip2 v a b k ++ [⟨a, b, k⟩] := by simp [trip2, upTo_succ h]
theorem trip1_succ {v a k : Nat} (h : a + 1 <= k) : trip1 v a (k + 1) = trip1 v a k ++ trip2 v a k v := by simp [trip1, upTo_succ h]
theorem trip0_succ {v k : Nat} : trip0 v (k + 1) = trip0 v k ++ trip1 v k v := by simp [trip0, upTo_succ (Nat.zero_le k)]
theorem trip2_start (v a b : Nat) : trip2 v a b (b + 1) = [] := by simp [trip2, upTo_self]
theorem trip1_start (v a : Nat) : trip1 v a (a + 1) = [] := by simp [trip1, upTo_self]
theorem trip0_start (v : Nat) : trip0 v 0 = [] := by simp [trip0, upTo_self]
end Go.Ab
end

section
namespace Go.Ab

def Bl (e : Nat) (H H' : Heap) (id : Nat) (cs : List Value) (n : Nat) : Prop := H <+: H' /\ OL e H' id cs n /\ H.length <= id
theorem Bl.ghost (e : Nat) (H : Heap) : Bl e H (H ++ [⟨[], false, false⟩]) H.length [] 0 := ⟨List.prefix_append _ _, OL.ghost e H, Nat.le_refl _⟩
theorem Bl.nil (e : Nat) (H : Heap) : Bl e H (H ++ [⟨[], true, true⟩]) H.length [] 0 := ⟨List.prefix_append _ _, ⟨by simp, .inr (by simp)⟩, Nat.le_refl _⟩
theorem Bl.pre {e : Nat} {H H' H'' : Heap} {id n : Nat} {cs : List Value} (h : Bl e H H' id cs n) (hp : H' <+: H'') : Bl e H H'' id cs n :=
  ⟨h.1.trans hp, h.2.1.keep (S := fun _ => False) (Same.of_prefix hp) (fun h => h), h.2.2⟩
theorem Bl.push {e : Nat} {H H' : Heap} {id n : Nat} {cs xs : List Value} (h : Bl e H H' id cs n) (he : 0 < e) (hx : xs.length = e) :
    cellsAt (H' ++ [⟨xs, true, true⟩]) H'.length 0 e = some xs /\ ∃ H3, appendH (H' ++ [⟨xs, true, true⟩]) e (lv e id 0 n) 1 xs = some (lv e (H'.length + 1) 0 (n + 1), H3) /\ Bl e H H3 (H'.length + 1) (cs ++ xs) (n + 1) := by
  obtain ⟨h1, H3, h2, h3, h4, h5⟩ := h.2.1.push he hx
  refine ⟨h1, H3, h2, ((Same.of_prefix h.1).trans h4).prefix (by have := h.2.2; omega), h3, ?_⟩
  have := h.1.length_le
  omega

def degrees (p : Nat) (bs : List Bk) : List Int := (List.range p).map fun q : Nat => ((bs.countP (·.has (q : Int)) : Nat) : Int)

end Go.Ab
namespace Go.Proofs.YtkimaohcmcfcnaaGreat
open Go.Ab

end Go.Proofs.YtkimaohcmcfcnaaGreat
end

section
namespace Go.Proofs.YtkimaohcmcfcnaaGreat
open Go.Ab

def Span (a b : Nat) (j : Nat) : Prop := a <= j /\ j < b

def IntsIn (a b : Nat) (H : Heap) (v : Value) (xs : List Int) : Prop := ∃ id, OwnInts H v id xs /\ (xs ≠ [] -> Span a b id)
def BlocksIn (a b : Nat) (H : Heap) (v : Value) (bs : List Bk) : Prop := ∃ id, OwnBlocks H v id bs /\ (bs ≠ [] -> Span a b id)
theorem OwnBlocks.inn {H H' : Heap} {v : Value} {id : Nat} {bs : List Bk} (h : OwnBlocks H' v id bs) (hid : H.length <= id) : BlocksIn H.length H'.length H' v bs :=
  ⟨id, h, fun hne => ⟨hid, h.lt.resolve_left hne⟩⟩

theorem IntsIn.keep {a b : Nat} {H H' : Heap} {v : Value} {xs : List Int} (h : IntsIn a b H v xs) {S : Nat -> Prop} (hs : Same S H H') (hd : ∀ j, Span a b j -> ¬ S j) : IntsIn a b H' v xs := by
  obtain ⟨id, h1, h2⟩ := h
  by_cases hne : xs = []
  · subst hne; exact ⟨id, ⟨h1.1, .inl rfl, h1.2.2⟩, h2⟩
  · exact ⟨id, h1.keep hs (hd _ (h2 hne)), h2⟩
theorem BlocksIn.keep {a b : Nat} {H H' : Heap} {v : Value} {bs : List Bk} (h : BlocksIn a b H v bs) {S : Nat -> Prop} (hs : Same S H H') (hd : ∀ j, Span a b j -> ¬ S j) : BlocksIn a b H' v bs := by
  obtain ⟨id, h1, h2⟩ := h
  by_cases hne : bs = []
  · subst hne; exact ⟨id, ⟨h1.1, .inl rfl, h1.2.2⟩, h2⟩
  · exact ⟨id, OwnBlocks.keep h1 hs (hd _ (h2 hne)), h2⟩
theorem BlocksIn.pre {a b : Nat} {H H' : Heap} (hp : H <+: H') {v : Value} {bs : List Bk} (h : BlocksIn a b H v bs) : BlocksIn a b H' v bs := h.keep (S := fun _ => False) (Same.of_prefix hp) (fun _ _ h => h)
theorem IntsIn.read {a b : Nat} {H : Heap} {v : Value} {xs : List Int} (h : IntsIn a b H v xs) : IntsAt H v xs := by obtain ⟨id, h, _⟩ := h; exact h.read
theorem BlocksIn.read {a b : Nat} {H : Heap} {v : Value} {bs : List Bk} (h : BlocksIn a b H v bs) : BlocksAt H v bs := by obtain ⟨id, h, _⟩ := h; exact OwnBlocks.read h
theorem BlocksIn.one {a b : Nat} {H : Heap} {v : Value} {bs : List Bk} (h : BlocksIn a b H v bs) : v.oneCell' = true := h.read.one
theorem IntsIn.nil (a b : Nat) (H : Heap) : IntsIn a b H (lv 1 0 0 0) [] := ⟨0, ⟨rfl, .inl rfl, by simp⟩, fun h => absurd rfl h⟩
theorem BlocksIn.nil (a b : Nat) (H : Heap) : BlocksIn a b H (lv 3 0 0 0) [] := ⟨0, ⟨rfl, .inl rfl, by simp⟩, fun h => absurd rfl h⟩
theorem BlocksIn.wider {a b c : Nat} {H : Heap} {v : Value} {bs : List Bk} (h : BlocksIn a b H v bs) (hc : c <= a) : BlocksIn c b H v bs := by
  obtain ⟨id, h1, h2⟩ := h; exact ⟨id, h1, fun hne => ⟨Nat.le_trans hc (h2 hne).1, (h2 hne).2⟩⟩

end Go.Proofs.YtkimaohcmcfcnaaGreat
end

section
namespace Go.Proofs.YtkimaohcmcfcnaaGreat
open Go.Ab

theorem At.keepS {H H' : Heap} {S : Nat -> Prop} (hs : Same S H H') {i o : Nat} {cs : List Value} (h : At H i o cs) (hi : cs ≠ [] -> ¬ S i) : At H' i o cs := by
  rcases h with h0 | h
  · exact .inl h0
  · by_cases hc : cs = []
    · exact .inl hc
    · right
      obtain ⟨blk, hb, hbl, hbn, he⟩ := cellsAt_inv h
      rw [cellsAt_of (hs.get hb (hi hc)) hbl hbn, <- he]
end Go.Proofs.YtkimaohcmcfcnaaGreat
end

section
namespace Go.Proofs.YtkimaohcmcfcnaaGreat
open Go.Ab

def u8s (xs : List Int) : List Value := xs.map (.int .u8 ·)
theorem u8s_len (xs : List Int) : (u8s xs).length = xs.length := by simp [u8s]
theorem u8s_get {xs : List Int} {k : Nat} (h : k < xs.length) : (u8s xs)[k]? = some (.int .u8 xs[k]) := by simp [u8s, h]
def BytesAt (H : Heap) (v : Value) (xs : List Int) : Prop := ∃ i o, v = lv 1 i o xs.length /\ At H i o (u8s xs) /\ xs.length <= 140737488355328 /\ ∀ x ∈ xs, 0 <= x /\ x < 256
theorem BytesAt.pre {H H' : Heap} (hp : H <+: H') {v : Value} {xs : List Int} (h : BytesAt H v xs) : BytesAt H' v xs := by
  obtain ⟨i, o, h1, h2, h3⟩ := h
  exact ⟨i, o, h1, h2.pre hp, h3⟩

def Src (L s : Nat) (H : Heap) : Prop := L <= s /\ ∃ (i o : Nat) (xs : List Int) (a z : Int), H[s]? = some ⟨[lv 1 i o xs.length, .int .i64 a, .int .u64 z], true, true⟩ /\ At H i o (u8s xs) /\ (xs ≠ [] -> i < L) /\
  xs.length <= 140737488355328 /\ (∀ x ∈ xs, 0 <= x /\ x < 256) /\ 0 <= a /\ a <= xs.length
theorem Src.lt {L s : Nat} {H : Heap} (h : Src L s H) : s < H.length := by
  obtain ⟨_, _, _, _, _, _, h, _⟩ := h
  exact (List.getElem?_eq_some_iff.1 h).1
theorem Src.keep {L s : Nat} {H H' : Heap} (h : Src L s H) {S : Nat -> Prop} (hs : Same S H H') (hS : ∀ j, S j -> L <= j /\ j ≠ s) : Src L s H' := by
  obtain ⟨hL, i, o, xs, a, z, h1, h2, h3, h4⟩ := h
  refine ⟨hL, i, o, xs, a, z, hs.get h1 (fun e => (hS s e).2 rfl), At.keepS hs h2 (fun hne e => ?_), h3, h4⟩
  have : xs ≠ [] := by intro e2; subst e2; exact hne rfl
  have := h3 this
  have := (hS i e).1
  omega
theorem Src.pre {L s : Nat} {H H' : Heap} (hp : H <+: H') (h : Src L s H) : Src L s H' := h.keep (S := fun _ => False) (Same.of_prefix hp) (fun _ e => e.elim)

theorem src_facts {H : Heap} {s : Nat} {u : Value} {a z : Int} (h : H[s]? = some ⟨[u, .int .i64 a, .int .u64 z], true, true⟩) :
    cellsAt H s 0 1 = some [u] /\ cellsAt H s 1 1 = some [.int .i64 a] /\ cellsAt H s 2 1 = some [.int .u64 z] /\
      (∀ v : Int, storeAt H s 2 [.int .u64 v] = some (H.set s ⟨[u, .int .i64 a, .int .u64 v], true, true⟩)) /\ (∀ v : Int, storeAt H s 1 [.int .i64 v] = some (H.set s ⟨[u, .int .i64 v, .int .u64 z], true, true⟩)) := by
  have hh : Holds H s [u, .int .i64 a, .int .u64 z] := ⟨true, h⟩
  refine ⟨hh.cell rfl, hh.cell rfl, hh.cell rfl, fun v => ?_, fun v => ?_⟩
  · rw [storeAt_of h rfl rfl (by simp) (by simp [Value.oneCell'])]; simp [over]
  · rw [storeAt_of h rfl rfl (by simp) (by simp [Value.oneCell'])]; simp [over]
theorem and24 (x : BitVec 64) : 0 <= IntKind.i64.wrap (IntKind.u64.wrap ((x &&& 16777215#64).toNat : Int)) /\ IntKind.i64.wrap (IntKind.u64.wrap ((x &&& 16777215#64).toNat : Int)) <= 16777215 := by
  have h : (x &&& 16777215#64).toNat <= 16777215 := by
    rw [BitVec.toNat_and]
    exact Nat.and_le_right
  rw [IntKind.wrap_u64, IntKind.wrap_i64]
  omega
theorem add24 {x b : Int} (hx : 0 <= x /\ x <= 16777215) (hb : 0 <= b /\ b < 256) : 0 <= IntKind.i64.wrap (x + b) := by
  rw [i64w (by omega) (by omega)]; omega
theorem rem_in {x n : Int} (h0 : 0 <= x) (h1 : ¬ n < 1) : 0 <= x.tmod n /\ (x.tmod n < n \/ x.tmod n = 0) :=
  ⟨Int.tmod_nonneg _ h0, .inl (Int.tmod_lt_of_pos _ (by omega))⟩

theorem next_ok {L s : Nat} {H : Heap} (hs : Src L s H) {n : Int} (Post : Value -> Heap -> Prop)
    (h : ∀ (H' : Heap) (r : Int), Same (fun j => j = s) H H' -> H'.length = H.length -> Src L s H' -> 0 <= r -> (r < n \/ r = 0) -> Post (.int .i64 r) H') :
    ACalls Tryz.prog 27 [.pointer (some ⟨s, 0, none⟩), .int .i64 n] H Post := by
  refine acalls_vc (rs := [.tmp 4]) Tryz.func27 rfl rfl Tryz.ntmps27 rfl rfl ?_
  by_cases h1 : n < 1
  · simp (maxSteps := 1000000) [go_sem, h1]
    exact h H 0 (Same.refl _ _) rfl hs (by omega) (.inr rfl)
  · obtain ⟨hL, i, o, xs, a, z, h2, h3, h4, h5, h6, h7, h8⟩ := hs
    have hlt := (List.getElem?_eq_some_iff.1 h2).1
    obtain ⟨c0, c1, c2, t2, t1⟩ := src_facts h2
    simp (maxSteps := 1000000) [go_sem, h1, c2, t2]
    generalize IntKind.u64.wrap (IntKind.u64.wrap (z * 6364136223846793005) + 1442695040888963407) = z1
    have g1 : (H.set s ⟨[lv 1 i o xs.length, .int .i64 a, .int .u64 z1], true, true⟩)[s]? = some ⟨[lv 1 i o xs.length, .int .i64 a, .int .u64 z1], true, true⟩ := List.getElem?_set_self hlt
    have hs1 : Same (fun j => j = s) H (H.set s ⟨[lv 1 i o xs.length, .int .i64 a, .int .u64 z1], true, true⟩) := same_set
    have hl1 : (H.set s ⟨[lv 1 i o xs.length, .int .i64 a, .int .u64 z1], true, true⟩).length = H.length := by simp
    generalize H.set s ⟨[lv 1 i o xs.length, .int .i64 a, .int .u64 z1], true, true⟩ = H1 at g1 hs1 hl1 ⊢
    have at1 : At H1 i o (u8s xs) := At.keepS hs1 h3 (fun hne e => by
      have : xs ≠ [] := by intro e2; subst e2; exact hne rfl
      have := h4 this
      omega)
    obtain ⟨d0, d1, d2, r2, r1⟩ := src_facts g1
    simp (maxSteps := 1000000) [go_sem, d2]
    refine AWp.draw mixed [(0, false), (1, false), (2, false), (3, false), (4, false), (5, false), (6, false), (7, false), (8, false), (9, false)] (by kernel_rfl) ?_
    simp (maxSteps := 1000000) [go_sem, d0, d1]
    by_cases ha : a < xs.length
    · have hk : a.toNat < xs.length := by omega
      have eb : cellsAt H1 i (o + a.toNat) 1 = some [.int .u8 xs[a.toNat]] := at1.cell (u8s_get hk)
      have hb := h6 xs[a.toNat] (List.getElem_mem hk)
      generalize xs[a.toNat] = b at *
      have wb : IntKind.i64.wrap b = b := i64w (by omega) (by omega)
      have wa : IntKind.i64.wrap (a + 1) = a + 1 := i64w (by omega) (by omega)
      have hat : (a.toNat : Int) = a := by omega
      simp (maxSteps := 1000000) [go_sem, ha]
      refine AWp.draw mixed [(0, false), (1, false), (2, false), (3, false), (4, false), (5, false), (6, false), (7, false), (8, false), (9, false), (10, false), (11, false), (12, false), (13, false)] (by kernel_rfl) ?_
      simp (maxSteps := 1000000) [go_sem, d0, d1, ha, h7, hk, eb, hat, wb, wa, r1]
      have g2 : (H1.set s ⟨[lv 1 i o xs.length, .int .i64 (a + 1), .int .u64 z1], true, true⟩)[s]? = some ⟨[lv 1 i o xs.length, .int .i64 (a + 1), .int .u64 z1], true, true⟩ := List.getElem?_set_self (by omega)
      have hs2 : Same (fun j => j = s) H1 (H1.set s ⟨[lv 1 i o xs.length, .int .i64 (a + 1), .int .u64 z1], true, true⟩) := same_set
      have at2 := At.keepS hs2 at1 (fun hne e => by
        have : xs ≠ [] := by intro e2; subst e2; exact hne rfl
        have := h4 this
        omega)
      refine andK_intro (by omega) (h _ _ (hs1.trans hs2) (by simp [hl1]) ⟨hL, i, o, xs, a + 1, z1, g2, at2, h4, h5, h6, by omega, by omega⟩ (rem_in (add24 (and24 _) hb) h1).1 (rem_in (add24 (and24 _) hb) h1).2)
    · simp (maxSteps := 1000000) [go_sem, ha]
      exact andK_intro (by omega) (h _ _ hs1 hl1 ⟨hL, i, o, xs, a, z1, g1, at1, h4, h5, h6, h7, h8⟩ (rem_in (and24 _).1 h1).1 (rem_in (and24 _).1 h1).2)

end Go.Proofs.YtkimaohcmcfcnaaGreat
end

section
namespace Go.Proofs.YtkimaohcmcfcnaaGreat
open Go.Ab

theorem from_ok {H : Heap} {u : Value} {xs : List Int} (hu : BytesAt H u xs) (Post : Value -> Heap -> Prop)
    (h : ∀ (H' : Heap), H <+: H' -> H'.length = H.length + 1 -> Src H.length H.length H' -> Post (.pointer (some ⟨H.length, 0, none⟩)) H') :
    ACalls Tryz.prog 14 [u] H Post := by
  obtain ⟨i, o, rfl, h1, h2, h3⟩ := hu
  have hil : xs ≠ [] -> i < H.length := by
    intro hne
    rcases h1 with h1 | h1
    · cases xs with
      | nil => exact absurd rfl hne
      | cons x xs => simp [u8s] at h1
    · obtain ⟨b, hb, _⟩ := cellsAt_inv h1
      exact (List.getElem?_eq_some_iff.1 hb).1
  refine acalls_vc (rs := [.tmp 2]) Tryz.func14 rfl rfl Tryz.ntmps14 rfl rfl ?_
  have wl : IntKind.u64.wrap (xs.length : Int) = xs.length := by rw [IntKind.wrap_u64]; omega
  simp (maxSteps := 1000000) [go_sem, wl]
  refine AWp.loopVc (St := Nat) (fun k => [(0, lv 1 i o xs.length), (3, .pointer (some ⟨H.length, 0, none⟩)), (4, .int .i64 k)])
    (fun k H' => k <= xs.length /\ k <= 4096 /\ H'.length = H.length + 1 /\ H <+: H' /\ ∃ z : Int, H'[H.length]? = some ⟨[lv 1 i o xs.length, .int .i64 0, .int .u64 z], true, true⟩) (fun k => xs.length - k) 0 ?_ ?_ ?_
  · simp [upF, Fr.get, Up.refl]
  · exact ⟨by omega, by omega, by simp, List.prefix_append _ _, IntKind.u64.wrap (13551 + (xs.length : Int)), by simp⟩
  · rintro K k H' ⟨hk, hk2, hlen, hp, z, hz⟩ hK
    have hlt := (List.getElem?_eq_some_iff.1 hz).1
    obtain ⟨c0, c1, c2, t2, t1⟩ := src_facts hz
    have at1 := h1.pre hp
    have fin := h H' hp hlen ⟨Nat.le_refl _, i, o, xs, 0, z, hz, at1, hil, h2, h3, by omega, by omega⟩
    by_cases hlt1 : k < xs.length
    · by_cases hlt2 : k < 4096
      · have eb : cellsAt H' i (o + k) 1 = some [.int .u8 xs[k]] := at1.cell (u8s_get hlt1)
        have hb := h3 xs[k] (List.getElem_mem hlt1)
        generalize xs[k] = b at *
        have wb : IntKind.u64.wrap b = b := by rw [IntKind.wrap_u64]; omega
        have hlt2' : (k : Int) < 4096 := by omega
        have hw_k : IntKind.i64.wrap ((k : Int) + 1) = (k : Int) + 1 := i64w (by omega) (by omega)
        simp (maxSteps := 1000000) [go_sem, hlt1, hlt2, hlt2']
        refine AWp.draw mixed [(0, false), (1, false), (2, false), (3, false), (4, false), (5, false), (6, false), (7, false), (8, false), (9, false), (10, false), (11, false), (12, false), (13, false), (14, false), (15, false)] (by kernel_rfl) ?_
        simp (maxSteps := 1000000) [go_sem, hlt1, c2, eb, wb, t2, hw_k]
        refine hK (k + 1) _ _ (by omega) (by simp [upF, Fr.get, Up.refl]) ⟨by omega, by omega, by simp [hlen], ?_, _, List.getElem?_set_self hlt⟩
        exact Same.prefix ((Same.of_prefix (S := fun j => j = H.length) hp).trans same_set) (by omega)
      · have hlt2' : ¬ (k : Int) < 4096 := by omega
        simp (maxSteps := 1000000) [go_sem, undef, hlt1, hlt2, hlt2']
        exact fin
    · simp (maxSteps := 1000000) [go_sem, undef, hlt1]
      exact fin

end Go.Proofs.YtkimaohcmcfcnaaGreat
end

section
namespace Go.Proofs.YtkimaohcmcfcnaaGreat
open Go.Ab

theorem infoInt : (Tryz.prog.info? 2).map (·.size) = some 1 := by kernel_rfl
theorem intsOf3 (a b c : Int) : intsOf .i64 [.int .i64 a, .int .i64 b, .int .i64 c] = some [a, b, c] := by simp [intsOf]
attribute [go_sem] infoInt intsOf3

theorem Bk.eq3 (b d : Bk) : b = d ↔ b.a = d.a /\ b.b = d.b /\ b.c = d.c := by
  obtain ⟨b1, b2, b3⟩ := b; obtain ⟨d1, d2, d3⟩ := d; simp

def memB (bs : List Bk) (b : Bk) : Bool := decide (b ∈ bs)

def IdxIs {α : Type} (xs : List α) (x : α) (n : Int) : Prop := (n = -1 /\ x ∉ xs) \/ ∃ s : Nat, n = s /\ xs[s]? = some x /\ x ∉ xs.take s

theorem IdxIs.pos {α : Type} {xs : List α} {x : α} {n : Int} (h : IdxIs xs x n) : 0 <= n ↔ x ∈ xs := by
  rcases h with ⟨rfl, h⟩ | ⟨s, rfl, h, _⟩
  · constructor
    · intro hh; omega
    · intro hh; exact absurd hh h
  · exact ⟨fun _ => List.mem_of_getElem? h, fun _ => by omega⟩

theorem slicesIndexB_ok {H : Heap} {u : Value} {bs : List Bk} {b : Bk} (hu : BlocksAt H u bs) (Post : Value -> Heap -> Prop) (h : ∀ H' n, H <+: H' -> IdxIs bs b n -> Post (.int .i64 n) H') :
    ACalls Tryz.prog 53 [u, b.val] H Post := by
  obtain ⟨i, o, rfl, h1, h2⟩ := hu
  refine acalls_vc (rs := [.tmp 4]) Tryz.func53 rfl rfl Tryz.ntmps53 rfl rfl ?_
  simp (maxSteps := 1000000) [go_sem, Bk.val]
  have hp0 : H <+: H ++ [⟨[.int .i64 b.a, .int .i64 b.b, .int .i64 b.c], true, true⟩] := List.prefix_append _ _
  have hx0 := Holds.last H [.int .i64 b.a, .int .i64 b.b, .int .i64 b.c]
  generalize H ++ [(⟨[.int .i64 b.a, .int .i64 b.b, .int .i64 b.c], true, true⟩ : Blk)] = H0 at hp0 hx0 ⊢
  obtain ⟨e0, e1, e2, e3⟩ := hx0.bk
  refine AWp.loopVc (fun s : Nat => [(0, lv 3 i o bs.length), (3, .pointer (some ⟨H.length, 0, none⟩)), (7, .int .i64 bs.length), (8, .int .i64 s)])
    (fun s H' => s <= bs.length /\ H' = H0 /\ b ∉ bs.take s) (fun s => bs.length - s) 0 ?_ ?_ ?_
  · simp [upF, Fr.get, Up.refl]
  · exact ⟨by omega, rfl, by simp⟩
  · rintro K s H' ⟨hs, rfl, hf⟩ hK
    by_cases hlt : s < bs.length
    · have hbs : bs[s]? = some bs[s] := List.getElem?_eq_getElem hlt
      have c1 := (h1.pre hp0).bk hbs
      simp only [Bk.cells] at c1
      have hw_s : IntKind.i64.wrap ((s : Int) + 1) = (s : Int) + 1 := i64w (by omega) (by omega)
      simp (maxSteps := 1000000) [go_sem, hlt]
      refine AWp.draw mixed [(0, false), (1, false), (2, false), (3, false), (4, false), (5, false)] (by kernel_rfl) ?_
      simp (maxSteps := 1000000) [go_sem, hlt, c1, e0, hw_s]
      refine condK_intro (fun hh => ?_) (fun hh => ?_)
      · have he : b = bs[s] := (Bk.eq3 _ _).2 (by simpa using hh)
        exact h H' s hp0 (.inr ⟨s, rfl, by rw [hbs, <- he], hf⟩)
      · have he : b ≠ bs[s] := fun e => by have := (Bk.eq3 _ _).1 e; simp [this.1, this.2.1, this.2.2] at hh
        refine hK (s + 1) _ _ (by omega) (by simp [upF, Fr.get, Up.refl]) ⟨by omega, rfl, ?_⟩
        rw [List.take_succ_eq_append_getElem hlt, List.mem_append]
        rintro (hh | hh)
        · exact hf hh
        · simp at hh; exact he hh
    · have : s = bs.length := by omega
      subst this
      rw [List.take_length] at hf
      simp (maxSteps := 1000000) [go_sem]
      exact h H' (-1) hp0 (.inl ⟨rfl, hf⟩)

theorem slicesContainsB_ok {H : Heap} {u : Value} {bs : List Bk} {b : Bk} (hu : BlocksAt H u bs) (Post : Value -> Heap -> Prop) (h : ∀ H', H <+: H' -> Post (.bool (memB bs b)) H') :
    ACalls Tryz.prog 32 [u, b.val] H Post := by
  refine acalls_vc (rs := [.tmp 4]) Tryz.func32 rfl rfl Tryz.ntmps32 rfl rfl ?_
  simp (maxSteps := 1000000) [go_sem, Bk.val]
  have hp0 : H <+: H ++ [⟨[.int .i64 b.a, .int .i64 b.b, .int .i64 b.c], true, true⟩] := List.prefix_append _ _
  refine slicesIndexB_ok (b := b) (hu.pre hp0) _ ?_
  intro H' n hp hn
  have e : decide (0 <= n) = memB bs b := by simp only [memB, hn.pos]
  simp (maxSteps := 1000000) [go_sem, e]
  exact h H' (hp0.trans hp)

theorem implCommon_ok {H : Heap} {u v : Value} {xs ys : List Bk} (hu : BlocksAt H u xs) (hv : BlocksAt H v ys) (hl : xs.length <= 1048576) (Post : Value -> Heap -> Prop)
    (h : ∀ H' w, H <+: H' -> BlocksIn H.length H'.length H' w (xs.filter (memB ys)) -> Post w H') :
    ACalls Tryz.prog 24 [u, v] H Post := by
  obtain ⟨i, o, rfl, h1, h2⟩ := hu
  refine ACalls.res ?_
  refine acalls_vc (rs := [.tmp 4]) Tryz.func24 rfl rfl Tryz.ntmps24 rfl rfl ?_
  simp (maxSteps := 1000000) [go_sem]
  refine AWp.addGhost ?_
  have hb0 := Bl.ghost 3 H
  generalize H ++ [(⟨[], false, false⟩ : Blk)] = H0 at hb0 ⊢
  refine AWp.loopVc (St := Nat × Nat) (fun s => [(1, v), (5, lv 3 s.2 0 ((xs.take s.1).filter (memB ys)).length), (8, lv 3 i o xs.length), (9, .int .i64 xs.length), (10, .int .i64 s.1)])
    (fun s H' => s.1 <= xs.length /\ Bl 3 H H' s.2 (tri ((xs.take s.1).filter (memB ys))) ((xs.take s.1).filter (memB ys)).length) (fun s => xs.length - s.1) (0, H.length) ?_ ?_ ?_
  · simp [upF, Fr.get, Up.refl, Up.nil]
  · exact ⟨by simp, by simpa [tri] using hb0⟩
  · rintro K ⟨s, id⟩ H' ⟨hs, hbl⟩ hK
    simp only at hs hbl
    by_cases hlt : s < xs.length
    · have hbs : xs[s]? = some xs[s] := List.getElem?_eq_getElem hlt
      have c1 := (h1.pre hbl.1).bk hbs
      simp only [Bk.cells] at c1
      have hw_s : IntKind.i64.wrap ((s : Int) + 1) = (s : Int) + 1 := i64w (by omega) (by omega)
      have hle : ((xs.take s).filter (memB ys)).length <= s := Nat.le_trans (List.length_filter_le _ _) (by simp; omega)
      simp (maxSteps := 1000000) [go_sem, hlt, c1]
      have hpb : H' <+: H' ++ [⟨[.int .i64 xs[s].a, .int .i64 xs[s].b, .int .i64 xs[s].c], true, true⟩] := List.prefix_append _ _
      have hx0 := Holds.last H' [.int .i64 xs[s].a, .int .i64 xs[s].b, .int .i64 xs[s].c]
      refine slicesContainsB_ok (b := xs[s]) (hv.pre (hbl.1.trans hpb)) _ ?_
      intro H2 hp2
      obtain ⟨e0, _⟩ := (hx0.pre hp2).bk
      have hbl2 := (hbl.pre hpb).pre hp2
      cases hm : memB ys xs[s] with
      | false =>
        have hsn : (xs.take (s + 1)).filter (memB ys) = (xs.take s).filter (memB ys) := by rw [List.take_succ_eq_append_getElem hlt, List.filter_append]; simp [hm]
        simp (maxSteps := 1000000) [go_sem, hw_s]
        exact hK (s + 1, id) _ _ (by simp only; omega) (by simp [upF, Fr.get, Up.refl, hsn]) ⟨by simp only; omega, by simp only [hsn]; exact hbl2⟩
      | true =>
        have hsn : (xs.take (s + 1)).filter (memB ys) = (xs.take s).filter (memB ys) ++ [xs[s]] := by rw [List.take_succ_eq_append_getElem hlt, List.filter_append]; simp [hm]
        obtain ⟨hsrc, H3, hap, hbl3⟩ := hbl2.push (xs := xs[s].cells) (by omega) rfl
        simp only [Bk.cells] at hsrc hap hbl3
        simp (maxSteps := 1000000) [go_sem, hw_s, e0, hsrc, hap]
        refine andK_intro (by omega) (hK (s + 1, H2.length + 1) _ _ (by simp only; omega) (by simp [upF, Fr.get, Up.refl, hsn]) ⟨by simp only; omega, ?_⟩)
        simp only [hsn, List.length_append, List.length_singleton, tri_append, tri_one, Bk.cells]
        exact hbl3
    · have : s = xs.length := by omega
      subst this
      rw [List.take_length] at hbl
      simp (maxSteps := 1000000) [go_sem]
      have hle : (xs.filter (memB ys)).length <= xs.length := List.length_filter_le _ _
      exact ⟨_, Up.refl _ _, h H' _ hbl.1 (OwnBlocks.inn (OwnBlocks.of_ol hbl.2.1 (by omega)) hbl.2.2)⟩

end Go.Proofs.YtkimaohcmcfcnaaGreat
end
