/- Contracts of the laws' own helpers over blocks and systems. They hold for every program that holds these functions. -/
import Derived.Test.YtkgjdmbmdnmilaaBase
import Derived.Test.YtkgjdmbmdnmilaaLaw1
import Derived.Test.YtkgjdmbmdnmilaaBlocks
set_option linter.all false
set_option maxRecDepth 20000
namespace Go.Proofs.Ytkgjdmbmdnmilaa
open Go.Ab

theorem szBlockS_ok {H : Heap} {u : Value} {bs : List Bk} {k : Int} (hu : BlocksAt H u bs) (hk0 : 0 ≤ k) (hk : k ≤ 1048576) (Post : Value → Heap → Prop) (h : Post (.int .i64 (if k < bs.length then -1 else k - bs.length)) H) :
    ACalls Try.prog 90 [u, .int .i64 k] H Post := by
  obtain ⟨i, o, rfl, h1, h2⟩ := hu
  refine acalls_vc (rs := [.tmp 4]) Try.func90 rfl rfl Try.ntmps90 rfl rfl ?_
  have hw : IntKind.i64.wrap (k - bs.length) = k - bs.length := i64w (by omega) (by omega)
  simp (maxSteps := 1000000) [go_sem, hw]
  refine condK_intro (fun h1 => ?_) (fun h1 => ?_)
  · rw [if_pos (by simp at h1; omega)] at h; exact h
  · rw [if_neg (by simp at h1; omega)] at h; exact h

theorem szSystem_ok {H : Heap} {u : Value} {p : Int} {bs : List Bk} {k : Int} (hu : BlocksAt H u bs) (hk0 : 0 ≤ k) (hk : k ≤ 1048576) (Post : Value → Heap → Prop) (h : ∀ H', H <+: H' → Post (.int .i64 (if k < bs.length then -1 else k - bs.length)) H') :
    ACalls Try.prog 30 [sysV p u, .int .i64 k] H Post := by
  obtain ⟨i, o, hu', h1, h2⟩ := hu
  refine acalls_vc (rs := [.tmp 4]) Try.func30 rfl rfl Try.ntmps30 rfl rfl ?_
  subst hu'
  simp (maxSteps := 1000000) [go_sem, sysV, Value.oneCell']
  refine szBlockS_ok ⟨i, o, rfl, h1.pre (List.prefix_append _ _), h2⟩ hk0 hk _ ?_
  simp (maxSteps := 1000000) [go_sem]
  refine condK_intro (fun h1 => ?_) (fun h1 => ?_)
  · by_cases hb : k < bs.length
    · have := h _ (List.prefix_append H [⟨[.int .i64 p, lv 3 i o bs.length], true, true⟩])
      rwa [if_pos hb] at this
    · rw [if_neg hb] at h1; simp at h1; omega
  · exact h _ (List.prefix_append _ _)

theorem toBlock_ok {H : Heap} {b : Bk} (Post : Value → Heap → Prop) (h : ∀ H', H <+: H' → Post b.val H') :
    ACalls Try.prog 159 [b.val] H Post := by
  refine acalls_vc (rs := [.cell 2 95]) Try.func159 rfl rfl Try.ntmps159 rfl rfl ?_
  obtain ⟨a, b, c⟩ := b
  simp (maxSteps := 1000000) [go_sem, Bk.val, Value.oneCell']
  refine AWp.loopVc (fun s : Nat => [(1, .pointer (some ⟨H.length, 0, none⟩)), (2, .pointer (some ⟨H.length + 1, 0, none⟩)), (3, .pointer (some ⟨H.length + 2, 0, none⟩)), (4, .int .i64 s)])
    (fun s H' => s ≤ 3 ∧ H' = H ++ [⟨[.int .i64 a, .int .i64 b, .int .i64 c], true, true⟩, ⟨[.int .i64 0, .int .i64 0, .int .i64 0], true, true⟩, ⟨[.int .i64 a, .int .i64 b, .int .i64 c].take s ++ [.int .i64 0, .int .i64 0, .int .i64 0].drop s, true, true⟩]) (fun s => 3 - s) 0 ?_ ?_ ?_
  · simp [upF, Fr.get, Up.refl]
  · simp
  · rintro K s H' ⟨hs, rfl⟩ hK
    have : s = 0 ∨ s = 1 ∨ s = 2 ∨ s = 3 := by omega
    rcases this with rfl | rfl | rfl | rfl
    · simp (maxSteps := 1000000) [go_sem, Value.oneCell', i64w (n := 1) (by omega) (by omega)]
      exact hK 1 _ _ (by omega) (by simp [upF, Fr.get, Up.refl]) ⟨by omega, by simp⟩
    · simp (maxSteps := 1000000) [go_sem, Value.oneCell', i64w (n := 2) (by omega) (by omega)]
      exact hK 2 _ _ (by omega) (by simp [upF, Fr.get, Up.refl]) ⟨by omega, by simp⟩
    · simp (maxSteps := 1000000) [go_sem, Value.oneCell', i64w (n := 3) (by omega) (by omega)]
      exact hK 3 _ _ (by omega) (by simp [upF, Fr.get, Up.refl]) ⟨by omega, by simp⟩
    · simp (maxSteps := 1000000) [go_sem, Value.oneCell']
      exact h _ (List.prefix_append _ _)

theorem toBlockS_ok {H : Heap} {u : Value} {bs : List Bk} (hu : BlocksAt H u bs) (Post : Value → Heap → Prop) (hb : bs.length ≤ 1048576) (h : ∀ H' v id, H <+: H' → H.length ≤ id → OwnBlocks H' v id bs → Post v H') :
    ACalls Try.prog 92 [u] H Post := by
  obtain ⟨i, o, rfl, h1, h2⟩ := hu
  refine ACalls.res ?_
  refine acalls_vc (rs := [.tmp 2]) Try.func92 rfl rfl Try.ntmps92 rfl rfl ?_
  simp (maxSteps := 1000000) [go_sem, made_blocks]
  refine andK_intro (by omega) ?_
  refine AWp.loopVc (fun s : Nat => [(0, lv 3 i o bs.length), (3, .slice (some ⟨H.length, 0, none⟩) bs.length bs.length), (4, .int .i64 s)])
    (fun s H' => s ≤ bs.length ∧ H <+: H' ∧ H'[H.length]? = some ⟨tri (bs.take s ++ List.replicate (bs.length - s) ⟨0, 0, 0⟩), true, true⟩) (fun s => bs.length - s) 0 ?_ ?_ ?_
  · simp [upF, Fr.get, Up.refl]
  · refine ⟨by omega, List.prefix_append _ _, by simp⟩
  · rintro K s H' ⟨hs, hp, hc⟩ hK
    by_cases hlt : s < bs.length
    · have hbs : bs[s]? = some bs[s] := List.getElem?_eq_getElem hlt
      have c1 := (h1.pre hp).bk hbs
      have hw : IntKind.i64.wrap ((s : Int) + 1) = (s : Int) + 1 := i64w (by omega) (by omega)
      simp (maxSteps := 1000000) [go_sem, hlt, c1, Bk.cells]
      refine toBlock_ok (b := bs[s]) _ ?_
      intro H2 hp2
      have hlen : s < (bs.take s ++ List.replicate (bs.length - s) (⟨0, 0, 0⟩ : Bk)).length := by simp; omega
      have hst := storeBk (b := bs[s]) (Same.get (S := fun _ => False) (Same.of_prefix hp2) hc (fun h => h)) hlen
      have hset : (bs.take s ++ List.replicate (bs.length - s) (⟨0, 0, 0⟩ : Bk)).set s bs[s] = bs.take (s + 1) ++ List.replicate (bs.length - (s + 1)) ⟨0, 0, 0⟩ := by
        rw [List.set_append_right _ _ (by simp; omega), List.length_take, Nat.min_eq_left hs, Nat.sub_self, show bs.length - s = (bs.length - (s + 1)) + 1 by omega, List.replicate_succ, List.set_cons_zero, List.take_succ_eq_append_getElem hlt, List.append_assoc]
        rfl
      rw [hset] at hst
      simp only [Bk.cells] at hst
      have hlt2 : H.length < H2.length := by
        have := (List.getElem?_eq_some_iff.1 hc).1
        have := hp2.length_le
        omega
      simp (maxSteps := 1000000) [go_sem, Bk.val, hlt, hst, hw, Value.oneCell']
      refine hK (s + 1) _ _ (by omega) (by simp [upF, Fr.get, Up.refl]) ⟨by omega, ?_, by rw [List.getElem?_set_self hlt2]⟩
      exact (show Same (fun j => j = H.length) H _ from (Same.of_prefix (hp.trans hp2)).trans ⟨by simp, fun j hj hjs => List.getElem?_set_ne (fun e => hjs e.symm)⟩).prefix (by omega)
    · have : s = bs.length := by omega
      subst this
      simp (maxSteps := 1000000) [go_sem]
      simp only [List.take_length, Nat.sub_self, List.replicate_zero, List.append_nil] at hc
      refine ⟨lv 3 H.length 0 bs.length, Up.ex (by omega) ?_, h H' _ H.length hp (Nat.le_refl _) ⟨rfl, .inr hc, by omega⟩⟩
      right
      rw [(Holds.cells ⟨true, hc⟩ (by rw [tri_length]; omega))]; rfl

theorem toSystem_ok {H : Heap} {u : Value} {p : Int} {bs : List Bk} (hu : BlocksAt H u bs) (Post : Value → Heap → Prop) (hb : bs.length ≤ 1048576) (h : ∀ H' v id, H <+: H' → H.length ≤ id → OwnBlocks H' v id bs → Post (sysV p v) H') :
    ACalls Try.prog 32 [sysV p u] H Post := by
  refine acalls_vc (rs := [.cell 2 36]) Try.func32 rfl rfl Try.ntmps32 rfl rfl ?_
  obtain ⟨i, o, rfl, h1, h2⟩ := hu
  simp (maxSteps := 1000000) [go_sem, sysV, Value.oneCell']
  refine toBlockS_ok ⟨i, o, rfl, h1.pre (List.prefix_append _ _), h2⟩ _ hb ?_
  intro H' v id hp hid hown
  obtain ⟨T, rfl⟩ := hp
  obtain ⟨rfl, hblk, hl⟩ := hown
  simp (maxSteps := 1000000) [go_sem, Value.oneCell']
  refine h _ (lv 3 id 0 bs.length) id (List.prefix_append _ _) (by simp at hid; omega) ⟨rfl, hblk.imp (fun h => h) fun hb => ?_, hl⟩
  simp only [List.length_append, List.length_cons, List.length_nil] at hid
  rw [List.append_assoc, List.getElem?_append_right (by omega)] at hb
  rw [List.getElem?_append_right (by omega)]
  obtain ⟨k, hk⟩ : ∃ k, id - H.length = k + 3 := ⟨id - H.length - 3, by omega⟩
  rw [hk] at hb ⊢
  simpa using hb

theorem eqBlock_ok {H : Heap} {b d : Bk} (Post : Value → Heap → Prop) (h : ∀ H', H <+: H' → Post (.bool (decide (b = d))) H') :
    ACalls Try.prog 110 [b.val, d.val] H Post := by
  refine acalls_vc (rs := [.tmp 4]) Try.func110 rfl rfl Try.ntmps110 rfl rfl ?_
  obtain ⟨b1, b2, b3⟩ := b
  obtain ⟨d1, d2, d3⟩ := d
  simp (maxSteps := 1000000) [go_sem, Bk.val, Value.oneCell']
  have h := h _ (List.prefix_append H [⟨[.int .i64 b1, .int .i64 b2, .int .i64 b3], true, true⟩, ⟨[.int .i64 d1, .int .i64 d2, .int .i64 d3], true, true⟩])
  refine AWp.loopVc (fun s : Nat => [(2, .pointer (some ⟨H.length, 0, none⟩)), (3, .pointer (some ⟨H.length + 1, 0, none⟩)), (5, .int .i64 s)])
    (fun s H' => s ≤ 3 ∧ H' = H ++ [⟨[.int .i64 b1, .int .i64 b2, .int .i64 b3], true, true⟩, ⟨[.int .i64 d1, .int .i64 d2, .int .i64 d3], true, true⟩] ∧ [b1, b2, b3].take s = [d1, d2, d3].take s) (fun s => 3 - s) 0 ?_ ?_ ?_
  · simp [upF, Fr.get, Up.refl]
  · simp
  · rintro K s H' ⟨hs, rfl, ht⟩ hK
    have : s = 0 ∨ s = 1 ∨ s = 2 ∨ s = 3 := by omega
    rcases this with rfl | rfl | rfl | rfl
    · simp (maxSteps := 1000000) [go_sem]
      refine AWp.draw mixed [(0, false), (1, false), (2, false), (3, false), (4, false), (5, false), (6, false)] (by kernel_rfl) ?_
      simp (maxSteps := 1000000) [go_sem, i64w (n := 1) (by omega) (by omega)]
      refine condK_intro (fun hne => ?_) (fun heq => ?_)
      · simp at hne; simpa [hne] using h
      · exact hK 1 _ _ (by omega) (by simp [upF, Fr.get, Up.refl]) ⟨by omega, rfl, by simpa using heq⟩
    · simp (maxSteps := 1000000) [go_sem]
      refine AWp.draw mixed [(0, false), (1, false), (2, false), (3, false), (4, false), (5, false), (6, false)] (by kernel_rfl) ?_
      simp (maxSteps := 1000000) [go_sem, i64w (n := 2) (by omega) (by omega)]
      refine condK_intro (fun hne => ?_) (fun heq => ?_)
      · simp at hne; simpa [hne] using h
      · exact hK 2 _ _ (by omega) (by simp [upF, Fr.get, Up.refl]) ⟨by omega, rfl, by simp at ht heq; simp [ht, heq]⟩
    · simp (maxSteps := 1000000) [go_sem]
      refine AWp.draw mixed [(0, false), (1, false), (2, false), (3, false), (4, false), (5, false), (6, false)] (by kernel_rfl) ?_
      simp (maxSteps := 1000000) [go_sem, i64w (n := 3) (by omega) (by omega)]
      refine condK_intro (fun hne => ?_) (fun heq => ?_)
      · simp at hne; simpa [hne] using h
      · exact hK 3 _ _ (by omega) (by simp [upF, Fr.get, Up.refl]) ⟨by omega, rfl, by simp at ht heq; simp [ht, heq]⟩
    · simp (maxSteps := 1000000) [go_sem]
      simp at ht
      simpa [ht] using h

theorem eqBlockS_ok {H : Heap} {u v : Value} {xs ys : List Bk} (hu : BlocksAt H u xs) (hv : BlocksAt H v ys) (Post : Value → Heap → Prop) (h : ∀ H', H <+: H' → Post (.bool (decide (xs = ys))) H') :
    ACalls Try.prog 52 [u, v] H Post := by
  obtain ⟨i, o, rfl, h1, h2⟩ := hu
  obtain ⟨j, q, rfl, h3, h4⟩ := hv
  refine acalls_vc (rs := [.tmp 4]) Try.func52 rfl rfl Try.ntmps52 rfl rfl ?_
  simp (maxSteps := 1000000) [go_sem]
  refine condK_intro (fun hne => ?_) (fun heq => ?_)
  · have : xs ≠ ys := by rintro rfl; simp at hne
    simpa [this] using h H (List.prefix_refl _)
  · have hlen : xs.length = ys.length := by simp at heq; omega
    refine AWp.loopVc (fun s : Nat => [(0, lv 3 i o xs.length), (1, lv 3 j q ys.length), (5, .int .i64 s)]) (fun s H' => H <+: H' ∧ s ≤ xs.length ∧ xs.take s = ys.take s) (fun s => xs.length - s) 0 ?_ ?_ ?_
    · simp [upF, Fr.get, Up.refl]
    · exact ⟨List.prefix_refl _, by omega, by simp⟩
    · rintro K s H' ⟨hp, hs, ht⟩ hK
      simp (maxSteps := 1000000) [go_sem]
      refine condK_intro (fun hlt => ?_) (fun hge => ?_)
      · have hlt : s < xs.length := by simpa using hlt
        have c1 := (h1.pre hp).bk (s := s) (b := xs[s]) (List.getElem?_eq_getElem _)
        have c2 := (h3.pre hp).bk (s := s) (b := ys[s]'(by omega)) (List.getElem?_eq_getElem _)
        simp only [Bk.cells] at c1 c2
        have hw : IntKind.i64.wrap ((s : Int) + 1) = (s : Int) + 1 := i64w (by omega) (by omega)
        refine AWp.draw mixed [(0, false), (1, false), (2, false), (3, false), (4, false), (5, false), (6, false), (7, false), (8, false), (9, false)] (by kernel_rfl) ?_
        simp (maxSteps := 1000000) [go_sem, hlt, hlen ▸ hlt, c1, c2]
        refine eqBlock_ok (b := xs[s]) (d := ys[s]'(by omega)) _ ?_
        intro H2 hp2
        simp (maxSteps := 1000000) [go_sem, hw]
        refine condK_intro (fun hne => ?_) (fun heq => ?_)
        · have : xs ≠ ys := by rintro rfl; simp at hne
          simpa [this] using h H2 (hp.trans hp2)
        · refine hK (s + 1) _ _ (by omega) (by simp [upF, Fr.get, Up.refl]) ⟨hp.trans hp2, by omega, ?_⟩
          have he : xs[s] = ys[s]'(by omega) := by simpa using heq
          rw [List.take_succ_eq_append_getElem hlt, List.take_succ_eq_append_getElem (by omega), ht, he]
      · have : s = xs.length := by simp at hge; omega
        subst this
        rw [List.take_length, hlen, List.take_length] at ht
        simpa [ht] using h H' hp

theorem eqSystem_ok {H : Heap} {u v : Value} {p q : Int} {xs ys : List Bk} (hu : BlocksAt H u xs) (hv : BlocksAt H v ys) (Post : Value → Heap → Prop) (h : ∀ H', H <+: H' → Post (.bool (decide (p = q ∧ xs = ys))) H') :
    ACalls Try.prog 34 [sysV p u, sysV q v] H Post := by
  refine acalls_vc (rs := [.tmp 4]) Try.func34 rfl rfl Try.ntmps34 rfl rfl ?_
  obtain ⟨i, o, rfl, h1, h2⟩ := hu
  obtain ⟨j, r, rfl, h3, h4⟩ := hv
  simp (maxSteps := 1000000) [go_sem, sysV, Value.oneCell']
  refine condK_intro (fun hne => ?_) (fun heq => ?_)
  · have : ¬ p = q := by simpa using hne
    simpa [this] using h _ (List.prefix_append H _)
  · have : p = q := by simpa using heq
    subst this
    refine eqBlockS_ok ⟨i, o, rfl, h1.pre (List.prefix_append _ _), h2⟩ ⟨j, r, rfl, h3.pre (List.prefix_append _ _), h4⟩ _ ?_
    intro H' hp
    have h := h H' ((List.prefix_append _ _).trans hp)
    simp (maxSteps := 1000000) [go_sem]
    refine condK_intro (fun hne => ?_) (fun heq => ?_)
    · have : ¬ xs = ys := by simpa using hne
      simpa [this] using h
    · have : xs = ys := by simpa using heq
      simpa [this] using h

end Go.Proofs.Ytkgjdmbmdnmilaa
