/- Appending whole lists to a list that the call holds alone; slices.Clone, Grow and Concat over blocks. -/
import Derived.Test.YtkgjdmbmdnmilaaFree2
import Derived.Test.YtkgjdmbmdnmilaaAbDrawX
set_option linter.all false
set_option maxRecDepth 20000
namespace Go.Ab

/-- A slice of n elements that the call holds alone: nil, empty, or a block of its own, from L on. -/
def OE (e L : Nat) (H : Heap) (v : Value) (cs : List Value) (n : Nat) : Prop :=
  cs.length = n * e ∧ ((n = 0 ∧ v = .slice none 0 0) ∨ (∃ id, n = 0 ∧ L ≤ id ∧ v = .slice (some ⟨id, 0, none⟩) 0 0 ∧ H[id]? = some ⟨[], true, true⟩) ∨
    ∃ id, L ≤ id ∧ v = lv e id 0 n ∧ ((n = 0 ∧ (ghostAt H id = true ∨ ownAt H id = true)) ∨ H[id]? = some ⟨cs, true, true⟩))

theorem OE.nil (e L : Nat) (H : Heap) : OE e L H (.slice none 0 0) [] 0 := ⟨by simp, .inl ⟨rfl, rfl⟩⟩
theorem OE.empty {e L : Nat} {H : Heap} {id : Nat} (hL : L ≤ id) (h : H[id]? = some ⟨[], true, true⟩) : OE e L H (.slice (some ⟨id, 0, none⟩) 0 0) [] 0 := ⟨by simp, .inr (.inl ⟨id, rfl, hL, rfl, h⟩)⟩
theorem OE.len {e L : Nat} {H : Heap} {v : Value} {cs : List Value} {n : Nat} (h : OE e L H v cs n) : lenV v = n := by
  rcases h.2 with ⟨rfl, rfl⟩ | ⟨id, rfl, _, rfl, _⟩ | ⟨id, _, rfl, _⟩ <;> rfl
theorem OE.one {e L : Nat} {H : Heap} {v : Value} {cs : List Value} {n : Nat} (h : OE e L H v cs n) : v.oneCell' = true := by
  rcases h.2 with ⟨rfl, rfl⟩ | ⟨id, rfl, _, rfl, _⟩ | ⟨id, _, rfl, _⟩ <;> rfl
theorem OE.shape {e L : Nat} {H : Heap} {v : Value} {cs : List Value} {n : Nat} (h : OE e L H v cs n) : ∃ a, v = .slice a n n := by
  rcases h.2 with ⟨rfl, rfl⟩ | ⟨id, rfl, _, rfl, _⟩ | ⟨id, _, rfl, _⟩ <;> exact ⟨_, rfl⟩
theorem OE.keep {e L : Nat} {H H' : Heap} {S : Nat → Prop} (hs : Same S H H') (hS : ∀ j, L ≤ j → ¬ S j) {v : Value} {cs : List Value} {n : Nat} (h : OE e L H v cs n) : OE e L H' v cs n := by
  have keep : ∀ {id : Nat} {b : Blk}, L ≤ id → H[id]? = some b → H'[id]? = some b := fun hL hb => hs.get hb (hS _ hL)
  refine ⟨h.1, ?_⟩
  rcases h.2 with h | ⟨id, h1, h2, h3, h4⟩ | ⟨id, h1, h2, h3⟩
  · exact .inl h
  · exact .inr (.inl ⟨id, h1, h2, h3, keep h2 h4⟩)
  · refine .inr (.inr ⟨id, h1, h2, ?_⟩)
    rcases h3 with ⟨h0, h3⟩ | h3
    · refine .inl ⟨h0, ?_⟩
      rcases h3 with h3 | h3
      · obtain ⟨b, hb, h5, h6⟩ := ghostAt_inv h3
        left; simp [ghostAt, keep h1 hb, h5, h6]
      · obtain ⟨b, hb, h5, h6⟩ := ownAt_inv h3
        right; simp [ownAt, keep h1 hb, h5, h6]
    · exact .inr (keep h1 h3)
theorem OE.pre {e L : Nat} {H H' : Heap} (hp : H <+: H') {v : Value} {cs : List Value} {n : Nat} (h : OE e L H v cs n) : OE e L H' v cs n := h.keep (S := fun _ => False) (Same.of_prefix hp) (fun _ _ h => h)

theorem KeepL.of_prefix {L : Nat} {H H' : Heap} (hp : H <+: H') (hL : L ≤ H.length) : KeepL L H H' := by
  intro i hi
  obtain ⟨t, rfl⟩ := hp
  exact List.getElem?_append_left (by omega)
theorem KeepL.refl (L : Nat) (H : Heap) : KeepL L H H := fun _ _ => rfl

theorem OE.append {e L : Nat} {H : Heap} {v : Value} {cs : List Value} {n : Nat} (h : OE e L H v cs n) (he : 0 < e) (hL : L ≤ H.length) {m : Nat} {news : List Value} (hn : news.length = m * e) :
    ∃ v' H', appendH H e v m news = some (v', H') ∧ OE e L H' v' (cs ++ news) (n + m) ∧ KeepL L H H' ∧ H.length ≤ H'.length := by
  by_cases hm : m = 0
  · subst hm
    have : news = [] := List.eq_nil_of_length_eq_zero (by simpa using hn)
    subst this
    obtain ⟨a, rfl⟩ := h.shape
    exact ⟨.slice a n n, H, by simp [appendH], by simpa using h, KeepL.refl _ _, Nat.le_refl _⟩
  · have new : ∀ cs' : List Value, (H ++ [(⟨cs', true, true⟩ : Blk)])[H.length]? = some ⟨cs', true, true⟩ := by intro cs'; simp
    rcases h.2 with ⟨rfl, rfl⟩ | ⟨id, rfl, h1, rfl, h2⟩ | ⟨id, h1, rfl, h2⟩
    · have : cs = [] := List.eq_nil_of_length_eq_zero (by simpa using h.1)
      subst this
      refine ⟨lv e H.length 0 m, H ++ [⟨news, true, true⟩], by simp [appendH, hm], ⟨by simpa using hn, .inr (.inr ⟨H.length, hL, by simp, .inr (new _)⟩)⟩, KeepL.of_prefix (List.prefix_append _ _) hL, by simp⟩
    · have : cs = [] := List.eq_nil_of_length_eq_zero (by simpa using h.1)
      subst this
      have hc : cellsAt H id 0 0 = some [] := by rw [cellsAt_of h2 rfl (by simp)]; simp
      refine ⟨lv e H.length 0 m, H ++ [⟨news, true, true⟩], by simp [appendH, hm, hc], ⟨by simpa using hn, .inr (.inr ⟨H.length, hL, by simp, .inr (new _)⟩)⟩, KeepL.of_prefix (List.prefix_append _ _) hL, by simp⟩
    · have kill : ∀ cs' : List Value, KeepL L H (H.kill id ++ [⟨cs', true, true⟩]) := by
        intro cs' i hi
        rw [List.getElem?_append_left (by rw [Heap.kill_length]; omega)]
        unfold Heap.kill
        split
        · exact List.getElem?_set_ne (by omega)
        · rfl
      have newk : ∀ cs' : List Value, (H.kill id ++ [(⟨cs', true, true⟩ : Blk)])[H.length]? = some ⟨cs', true, true⟩ := by
        intro cs'
        rw [List.getElem?_append_right (by rw [Heap.kill_length]; exact Nat.le_refl _), Heap.kill_length]; simp
      rcases h2 with ⟨rfl, h2⟩ | h2
      · have : cs = [] := List.eq_nil_of_length_eq_zero (by simpa using h.1)
        subst this
        by_cases hg : ghostAt H id = true
        · refine ⟨lv e H.length 0 m, H ++ [⟨news, true, true⟩], by simp [appendH, hm, hg, he], ⟨by simpa using hn, .inr (.inr ⟨H.length, hL, by simp, .inr (new _)⟩)⟩, KeepL.of_prefix (List.prefix_append _ _) hL, by simp⟩
        · have ho := h2.resolve_left hg
          obtain ⟨b, hb, hbl, hbo⟩ := ownAt_inv ho
          have hc : cellsAt H id 0 0 = some [] := by rw [cellsAt_of hb hbl (by simp)]; simp
          exact ⟨lv e H.length 0 m, H.kill id ++ [⟨news, true, true⟩], by simp [appendH, hm, hg, ho, hc], ⟨by simpa using hn, .inr (.inr ⟨H.length, hL, by simp, .inr (newk _)⟩)⟩, kill _, by simp [Heap.kill_length]⟩
      · have hc : cellsAt H id 0 (n * e) = some cs := by rw [← h.1, cellsAt_of h2 rfl (by simp)]; simp
        have hown : ownAt H id = true := by simp [ownAt, h2]
        have hng : ghostAt H id = false := by simp [ghostAt, h2]
        exact ⟨lv e H.length 0 (n + m), H.kill id ++ [⟨cs ++ news, true, true⟩], by simp [appendH, hm, hown, hng, hc], ⟨by simp [h.1, hn, Nat.add_mul], .inr (.inr ⟨H.length, hL, rfl, .inr (newk _)⟩)⟩, kill _, by simp [Heap.kill_length]⟩

theorem KeepL.prefix {L : Nat} {H0 H H' : Heap} (hp : H0 <+: H) (hL : H0.length ≤ L) (hk : KeepL L H H') (hl : H.length ≤ H'.length) : H0 <+: H' :=
  (show Same (fun j => L ≤ j) H0 H' from (Same.of_prefix hp).trans ⟨hl, fun j _ hj => hk j (by omega)⟩).prefix (by intro j hj h; omega)

theorem At.take_tri {H : Heap} {i o : Nat} {bs : List Bk} (h : At H i o (tri bs)) (k : Nat) (hk : k ≤ bs.length) : At H i o (tri (bs.take k)) := by
  by_cases h0 : k = 0
  · subst h0; exact .inl rfl
  · right
    have e : tri (bs.take k) = (tri bs).take (k * 3) := by
      have e2 : tri bs = tri (bs.take k) ++ tri (bs.drop k) := by rw [← tri_append, List.take_append_drop]
      rw [e2, List.take_left' (by rw [tri_length, List.length_take]; omega)]
    have := h.sub (k := 0) (n := k * 3) (by omega) (by rw [tri_length]; omega)
    rw [tri_length, List.length_take, Nat.min_eq_left hk, e]
    simpa using this
theorem At.drop_tri {H : Heap} {i o : Nat} {bs : List Bk} (h : At H i o (tri bs)) (k : Nat) (hk : k ≤ bs.length) : At H i (o + k * 3) (tri (bs.drop k)) := by
  by_cases h0 : k = bs.length
  · subst h0; left; simp [tri]
  · right
    have e : tri (bs.drop k) = (tri bs).drop (k * 3) := by
      have e2 : tri bs = tri (bs.take k) ++ tri (bs.drop k) := by rw [← tri_append, List.take_append_drop]
      rw [e2, List.drop_left' (by rw [tri_length, List.length_take]; omega)]
    have := h.sub (k := k * 3) (n := (bs.length - k) * 3) (by omega) (by rw [tri_length]; omega)
    rw [tri_length, List.length_drop, e, this, List.take_of_length_le (by rw [List.length_drop, tri_length]; omega)]
theorem At.src {H : Heap} {i o n : Nat} {cs : List Value} {e : Nat} {s : Option Nat} (h : At H i o cs) (hn : cs.length = n * e) (he : 0 < e) (c : Nat) : srcCells H e (.slice (some ⟨i, o, s⟩) n c) = some cs := by
  simp only [srcCells]
  by_cases h0 : n = 0
  · rw [if_pos h0]; subst h0; simp at hn; rw [hn]
  · rw [if_neg h0, ← hn]
    refine h.resolve_left (fun hc => ?_)
    have hpos : 0 < n * e := Nat.mul_pos (by omega) he
    rw [hc, List.length_nil] at hn
    omega

end Go.Ab
namespace Go.Proofs.Ytkgjdmbmdnmilaa
open Go.Ab

theorem _root_.Go.Ab.OE.blocks {L : Nat} {H : Heap} {v : Value} {bs : List Bk} (h : OE 3 L H v (tri bs) bs.length) (hl : bs.length ≤ 140737488355328) : ∃ w, Up H v w ∧ BlocksIn L H.length H w bs := by
  rcases h.2 with ⟨h0, rfl⟩ | ⟨id, h0, h1, rfl, h2⟩ | ⟨id, h1, rfl, h2⟩
  · obtain rfl := List.eq_nil_of_length_eq_zero h0
    exact ⟨_, Up.nil _ 0 0 3, BlocksIn.nil _ _ _⟩
  · obtain rfl := List.eq_nil_of_length_eq_zero h0
    exact ⟨_, Up.ex0 _ _ _ 3 0 0, BlocksIn.nil _ _ _⟩
  · refine ⟨_, Up.refl _ _, id, ⟨rfl, ?_, hl⟩, fun hne => ?_⟩
    · rcases h2 with ⟨h0, _⟩ | h2
      · exact .inl (List.eq_nil_of_length_eq_zero h0)
      · exact .inr h2
    · rcases h2 with ⟨h0, _⟩ | h2
      · exact absurd (List.eq_nil_of_length_eq_zero h0) hne
      · exact ⟨h1, (List.getElem?_eq_some_iff.1 h2).1⟩
theorem _root_.Go.Ab.OE.ints {L : Nat} {H : Heap} {v : Value} {xs : List Int} (h : OE 1 L H v (ints xs) xs.length) (hl : xs.length ≤ 140737488355328) : ∃ w, Up H v w ∧ IntsIn L H.length H w xs := by
  rcases h.2 with ⟨h0, rfl⟩ | ⟨id, h0, h1, rfl, h2⟩ | ⟨id, h1, rfl, h2⟩
  · obtain rfl := List.eq_nil_of_length_eq_zero h0
    exact ⟨_, Up.nil _ 0 0 1, IntsIn.nil _ _ _⟩
  · obtain rfl := List.eq_nil_of_length_eq_zero h0
    exact ⟨_, Up.ex0 _ _ _ 1 0 0, IntsIn.nil _ _ _⟩
  · refine ⟨_, Up.refl _ _, id, ⟨rfl, ?_, hl⟩, fun hne => ?_⟩
    · rcases h2 with ⟨h0, _⟩ | h2
      · exact .inl (List.eq_nil_of_length_eq_zero h0)
      · exact .inr h2
    · rcases h2 with ⟨h0, _⟩ | h2
      · exact absurd (List.eq_nil_of_length_eq_zero h0) hne
      · exact ⟨h1, (List.getElem?_eq_some_iff.1 h2).1⟩

/-- A system without the block k. -/
def without (bs : List Bk) (k : Nat) : List Bk := bs.take k ++ bs.drop (k + 1)

theorem l01Without_ok {H : Heap} {u : Value} {p : Int} {bs : List Bk} {k : Nat} (hu : BlocksAt H u bs) (hl : bs.length ≤ 1048576) (hk : k < bs.length) (Post : Value → Heap → Prop)
    (h : ∀ H' w, H <+: H' → BlocksIn H.length H'.length H' w (without bs k) → Post (sysV p w) H') :
    ACalls Try.prog 113 [sysV p u, .int .i64 k] H Post := by
  obtain ⟨i, o, rfl, h1, h2⟩ := hu
  refine ACalls.res ?_
  refine acalls_vc (rs := [.cell 4 36]) Try.func113 rfl rfl Try.ntmps113 rfl rfl ?_
  simp (maxSteps := 1000000) [go_sem, sysV]
  refine AWp.drawX (H.length + 2) mixed [(0, false), (1, false), (3, false), (4, false), (5, false), (6, false), (8, false), (9, false), (10, false), (11, false), (12, false), (2, true), (7, true), (13, true), (14, false), (15, false)] (by kernel_rfl) ?_
  have hw : IntKind.i64.wrap ((k : Int) + 1) = (k : Int) + 1 := i64w (by omega) (by omega)
  have hk1 : k ≤ bs.length := by omega
  have hk2 : k + 1 ≤ bs.length := by omega
  have hiH : i < H.length := by
    rcases h1 with h1 | h1
    · have := tri_length bs; rw [h1] at this; simp at this; omega
    · obtain ⟨b, hb, _⟩ := cellsAt_inv h1; exact (List.getElem?_eq_some_iff.1 hb).1
  simp (maxSteps := 1000000) [go_sem, hw, hk1, hk2, sliceV, boundV]
  refine andK_intro (by omega) (andK_intro (by omega) (andK_intro (by omega) ?_))
  have hp2 : H <+: H ++ [⟨[.int .i64 p, lv 3 i o bs.length], true, true⟩, ⟨[.int .i64 0, .slice none 0 0], true, true⟩] := List.prefix_append _ _
  have hp3 : H ++ [(⟨[.int .i64 p, lv 3 i o bs.length], true, true⟩ : Blk), ⟨[.int .i64 0, .slice none 0 0], true, true⟩] <+: H ++ [⟨[.int .i64 p, lv 3 i o bs.length], true, true⟩, ⟨[.int .i64 0, .slice none 0 0], true, true⟩, ⟨[], true, true⟩] := ⟨[⟨[], true, true⟩], by simp⟩
  have hlen2 : (H ++ [(⟨[.int .i64 p, lv 3 i o bs.length], true, true⟩ : Blk), ⟨[.int .i64 0, .slice none 0 0], true, true⟩]).length = H.length + 2 := by simp
  have hbx : (H ++ [(⟨[.int .i64 p, lv 3 i o bs.length], true, true⟩ : Blk), ⟨[.int .i64 0, .slice none 0 0], true, true⟩])[H.length + 1]? = some ⟨[.int .i64 0, .slice none 0 0], true, true⟩ := by simp
  have he0 : OE 3 (H.length + 2) (H ++ [(⟨[.int .i64 p, lv 3 i o bs.length], true, true⟩ : Blk), ⟨[.int .i64 0, .slice none 0 0], true, true⟩, ⟨[], true, true⟩]) (.slice (some ⟨H.length + 2, 0, none⟩) 0 0) [] 0 := OE.empty (Nat.le_refl _) (by simp)
  generalize H ++ [(⟨[.int .i64 p, lv 3 i o bs.length], true, true⟩ : Blk), ⟨[.int .i64 0, .slice none 0 0], true, true⟩, ⟨[], true, true⟩] = H3 at hp3 he0 ⊢
  generalize H ++ [(⟨[.int .i64 p, lv 3 i o bs.length], true, true⟩ : Blk), ⟨[.int .i64 0, .slice none 0 0], true, true⟩] = H2 at hp2 hp3 hlen2 hbx ⊢
  have hlen3 := hp3.length_le
  refine andK_intro (KeepL.of_prefix hp3 (by omega)) ?_
  have hs1 := ((h1.take_tri k hk1).pre (hp2.trans hp3)).src (n := k) (s := some 3) (by rw [tri_length, List.length_take, Nat.min_eq_left hk1]) (by omega) k
  have hs2 := ((h1.drop_tri (k + 1) hk2).pre hp2).src (n := bs.length - (k + 1)) (s := some 3) (by rw [tri_length, List.length_drop]) (by omega) (bs.length - (k + 1))
  obtain ⟨v4, H4, hap4, he4, hk4, hlen4⟩ := he0.append (m := k) (news := tri (bs.take k)) (by omega) (by omega) (by rw [tri_length, List.length_take, Nat.min_eq_left hk1])
  simp only [Nat.zero_add, List.nil_append] at he4
  obtain ⟨a4, rfl⟩ := he4.shape
  have hp24 : H2 <+: H4 := KeepL.prefix hp3 (by omega) hk4 (by omega)
  have hs2' := ((h1.drop_tri (k + 1) hk2).pre (hp2.trans hp24)).src (n := bs.length - (k + 1)) (s := some 3) (by rw [tri_length, List.length_drop]) (by omega) (bs.length - (k + 1))
  obtain ⟨v5, H5, hap5, he5, hk5, hlen5⟩ := he4.append (m := bs.length - (k + 1)) (news := tri (bs.drop (k + 1))) (by omega) (by omega) (by rw [tri_length, List.length_drop])
  obtain ⟨a5, rfl⟩ := he5.shape
  have hp25 : H2 <+: H5 := KeepL.prefix hp24 (by omega) hk5 (by omega)
  simp only [srcCells] at hs1 hs2'
  simp (maxSteps := 1000000) [go_sem, hs1, hap4]
  refine andK_intro (by omega) (andK_intro hk4 ?_)
  simp (maxSteps := 1000000) [go_sem, hs2', hap5]
  refine andK_intro (by omega) (andK_intro hk5 ?_)
  have hb5 := Same.get (S := fun _ => False) (Same.of_prefix hp25) hbx (fun h => h)
  have hst : storeAt H5 (H.length + 1) 0 [.int .i64 p, .slice a5 (k + (bs.length - (k + 1))) (k + (bs.length - (k + 1)))] = some (H5.set (H.length + 1) ⟨[.int .i64 p, .slice a5 (k + (bs.length - (k + 1))) (k + (bs.length - (k + 1)))], true, true⟩) := by
    rw [storeAt_of hb5 rfl rfl (by simp) (by simp [Value.oneCell'])]
    simp [over]
  have hld : cellsAt (H5.set (H.length + 1) ⟨[.int .i64 p, .slice a5 (k + (bs.length - (k + 1))) (k + (bs.length - (k + 1)))], true, true⟩) (H.length + 1) 0 2 = some [.int .i64 p, .slice a5 (k + (bs.length - (k + 1))) (k + (bs.length - (k + 1)))] := by
    have := Holds.cells (n := 2) (o := 0) (H := H5.set (H.length + 1) ⟨[.int .i64 p, .slice a5 (k + (bs.length - (k + 1))) (k + (bs.length - (k + 1)))], true, true⟩) ⟨true, List.getElem?_set_self (List.getElem?_eq_some_iff.1 hb5).1⟩ (by simp)
    simpa using this
  simp (maxSteps := 1000000) [go_sem, hst, hld]
  have hlen : (without bs k).length = k + (bs.length - (k + 1)) := by simp only [without, List.length_append, List.length_take, List.length_drop]; omega
  have he6 : OE 3 (H.length + 2) H5 (.slice a5 (k + (bs.length - (k + 1))) (k + (bs.length - (k + 1)))) (tri (without bs k)) (without bs k).length := by
    rw [hlen, without, tri_append]; exact he5
  have hs6 : Same (fun j => j = H.length + 1) H5 (H5.set (H.length + 1) ⟨[.int .i64 p, .slice a5 (k + (bs.length - (k + 1))) (k + (bs.length - (k + 1)))], true, true⟩) := Same.set
  obtain ⟨w, hup, hw⟩ := (he6.keep hs6 (by intro j hj he; omega)).blocks (by omega)
  exact ⟨sysV p w, Up.agg ⟨Up.refl _ _, hup, trivial⟩, h _ w (((Same.of_prefix (hp2.trans hp25)).trans hs6).prefix (by intro j hj he; omega)) (hw.wider (by omega))⟩

noncomputable def rTake (p : Int) (bs : List Bk) (i : Int) : (Int × List Bk) × Int :=
  if sysB p bs then (if inP bs.length i then ((p, without bs i.toNat), 0) else ((0, []), 2)) else ((0, []), 1)

theorem zeroSys {H : Heap} : Up H (.agg #[.int .i64 0, .slice none 0 0]) (sysV 0 (lv 3 0 0 0)) := Up.agg ⟨Up.refl _ _, Up.nil _ _ _ _, trivial⟩

end Go.Proofs.Ytkgjdmbmdnmilaa
