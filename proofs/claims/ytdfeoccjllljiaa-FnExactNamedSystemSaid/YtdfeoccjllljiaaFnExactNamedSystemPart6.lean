/- Part 6 of what the proof of the law FnExactNamedSystem rests on: contracts of functions of the program, for every argument that each names; no statement of the seat is proved here. -/
import Derived.Test.YtdfeoccjllljiaaFnExactNamedSystemPart5

section
/- Sorting blocks: the specification's side. -/
set_option linter.all false
set_option maxRecDepth 20000
set_option maxHeartbeats 4000000
namespace Go.Proofs.Ytdfeoccjllljiaa
open Go.Ab

/-- A block put into blocks, from the end on. -/
def insRev (x : Bk) : List Bk → List Bk
  | [] => [x]
  | y :: l => if before x y then y :: insRev x l else x :: y :: l
def insR (x : Bk) (l : List Bk) : List Bk := (insRev x l.reverse).reverse
def sortB (bs : List Bk) : List Bk := bs.foldl (fun l x => insR x l) []
theorem insRev_append {x : Bk} {B : List Bk} (hB : ∀ y l, B = y :: l → before x y = false) : ∀ {A : List Bk}, (∀ y ∈ A, before x y = true) → insRev x (A ++ B) = A ++ x :: B
  | [], _ => by
    cases B with
    | nil => rfl
    | cons y l => simp [insRev, hB y l rfl]
  | y :: A, h => by
    simp only [List.cons_append, insRev, h y List.mem_cons_self, if_true]
    rw [insRev_append hB fun z hz => h z (List.mem_cons_of_mem _ hz)]
theorem insR_at {x : Bk} {l : List Bk} {k : Nat} (hk : k ≤ l.length) (h1 : ∀ y ∈ l.drop k, before x y = true) (h2 : ∀ (r : Nat) (y : Bk), k = r + 1 → l[r]? = some y → before x y = false) : insR x l = l.take k ++ x :: l.drop k := by
  unfold insR
  conv => lhs; rw [← List.take_append_drop k l]
  rw [List.reverse_append, insRev_append (B := (l.take k).reverse) ?_ (fun y hy => h1 y (by simpa using hy))]
  · simp
  · intro y t e
    cases k with
    | zero => simp at e
    | succ r =>
      have hr : r < l.length := by omega
      have e2 : (l.take (r + 1)).reverse = l[r] :: (l.take r).reverse := by rw [List.take_succ_eq_append_getElem hr]; simp
      rw [e2] at e
      cases e
      exact h2 r _ rfl (List.getElem?_eq_getElem hr)
theorem insR_length (x : Bk) (l : List Bk) : (insR x l).length = l.length + 1 := by
  have key : ∀ l : List Bk, (insRev x l).length = l.length + 1 := by
    intro l
    induction l with
    | nil => rfl
    | cons y l ih => simp only [insRev]; split <;> simp [ih]
  unfold insR; rw [List.length_reverse, key, List.length_reverse]
theorem sortB_snoc (bs : List Bk) (x : Bk) : sortB (bs ++ [x]) = insR x (sortB bs) := by simp [sortB, List.foldl_append]
theorem sortB_length : ∀ (n : Nat) (bs : List Bk), bs.length = n → (sortB bs).length = n
  | 0, bs, h => by have := List.eq_nil_of_length_eq_zero h; subst this; rfl
  | n + 1, bs, h => by
    have hne : bs ≠ [] := by rintro rfl; simp at h
    rw [← List.dropLast_concat_getLast hne, sortB_snoc, insR_length, sortB_length n _ (by simp [h])]
/-- Ascending blocks stay as they are. -/
theorem sortB_same {bs : List Bk} (h : ∀ (r : Nat) (x y : Bk), bs[r]? = some y → bs[r + 1]? = some x → before x y = false) : ∀ k, sortB (bs.take k) = bs.take k
  | 0 => by simp [sortB]
  | k + 1 => by
    by_cases hk : k < bs.length
    · rw [List.take_succ_eq_append_getElem hk, sortB_snoc, sortB_same h k]
      have hl : (bs.take k).length = k := by simp; omega
      rw [insR_at (k := k) (by omega) (by rw [List.drop_eq_nil_of_le (by omega)]; simp) ?_]
      · rw [List.drop_eq_nil_of_le (by omega), List.take_of_length_le (by omega)]
      · intro r y e hy
        subst e
        rw [List.getElem?_take, if_pos (by omega)] at hy
        exact h r _ y hy (List.getElem?_eq_getElem hk)
    · rw [List.take_of_length_le (by omega)]
      have := sortB_same h k
      rwa [List.take_of_length_le (by omega)] at this

theorem l01Sort_ok {H : Heap} {u : Value} {bs : List Bk} (hu : BlocksAt H u bs) (hl : bs.length ≤ 1048576) (Post : Value → Heap → Prop)
    (h : ∀ H' w, H <+: H' → BlocksIn H.length H'.length H' w (sortB bs) → Post w H') : ACalls Try.prog 142 [u] H Post := by
  obtain ⟨i, o, rfl, h1, h2⟩ := hu
  refine ACalls.res ?_
  refine acalls_vc (rs := [.tmp 2]) Try.func142 rfl rfl Try.ntmps142 rfl rfl ?_
  simp (maxSteps := 1000000) [go_sem]
  refine AWp.loopVc (St := Nat × Nat) (fun s => [(0, lv 3 i o bs.length), (3, lv 3 s.2 0 s.1), (4, .int .i64 s.1)])
    (fun s H' => s.1 ≤ bs.length ∧ Bl 3 H H' s.2 (tri (sortB (bs.take s.1))) s.1) (fun s => bs.length - s.1) (0, H.length) ?_ ?_ ?_
  · simp [upF, Fr.get, Up.refl, Up.ex0]
  · exact ⟨by simp, by simpa [sortB, tri] using Bl.nil 3 H⟩
  · rintro K ⟨s, id⟩ H' ⟨hs, hbl⟩ hK
    simp only at hs hbl
    by_cases hlt : s < bs.length
    · have hbs : bs[s]? = some bs[s] := List.getElem?_eq_getElem hlt
      have c1 := (h1.pre hbl.1).bk hbs
      have hw_s : IntKind.i64.wrap ((s : Int) + 1) = (s : Int) + 1 := i64w (by omega) (by omega)
      obtain ⟨hsrc, H4, hap, hbl4⟩ := hbl.push (xs := bs[s].cells) (by omega) rfl
      have hll : (sortB (bs.take s)).length = s := sortB_length s _ (by simp; omega)
      have hsn : sortB (bs.take (s + 1)) = insR bs[s] (sortB (bs.take s)) := by rw [List.take_succ_eq_append_getElem hlt, sortB_snoc]
      obtain ⟨l, hl0⟩ : ∃ l, l = sortB (bs.take s) := ⟨_, rfl⟩
      obtain ⟨x, hx⟩ : ∃ x, x = bs[s] := ⟨_, rfl⟩
      rw [← hl0] at hll hsn hbl4
      rw [← hx] at c1 hbs hsn hbl4 hap hsrc
      simp only [Bk.cells] at c1 hsrc hap
      have hid4 : H4[H'.length + 1]? = some ⟨tri (l ++ [x]), true, true⟩ := by
        rcases hbl4.2.1.2 with ⟨h0, _⟩ | hb
        · omega
        · rw [hb, tri_append, tri_one]
      have hge : H.length ≤ H'.length + 1 := hbl4.2.2
      simp (maxSteps := 1000000) [go_sem, hlt, c1, hsrc, hap]
      refine andK_intro (by omega) ?_
      obtain ⟨nid, hnid⟩ : ∃ nid, nid = H'.length + 1 := ⟨_, rfl⟩
      rw [← hnid] at hid4 hge ⊢
      refine AWp.loopVc (St := Nat × List Bk) (fun t => [(0, lv 3 i o bs.length), (3, lv 3 nid 0 (s + 1)), (4, .int .i64 s), (5, .int .i64 t.1)])
        (fun t H2 => t.1 ≤ s ∧ t.2.length = s + 1 ∧ H <+: H2 ∧ H2[nid]? = some ⟨tri t.2, true, true⟩ ∧ t.2.take t.1 = l.take t.1 ∧ t.2.drop (t.1 + 1) = l.drop t.1 ∧ ∀ y ∈ l.drop t.1, before x y = true) (fun t => t.1) (s, l ++ [x]) ?_ ?_ ?_
      · simp [upF, Fr.get, Up.refl]
      · refine ⟨by simp, by simp [hll], hbl4.1, hid4, ?_, ?_, ?_⟩
        · simp only; rw [List.take_append_of_le_length (by omega)]
        · simp only; rw [List.drop_eq_nil_of_le (by simp; omega), List.drop_eq_nil_of_le (by omega)]
        · simp only; rw [List.drop_eq_nil_of_le (by omega)]; simp
      · rintro K2 ⟨at_, ys⟩ H2 ⟨hat, hyl, hp2, hb2, htk, hdr, hbf⟩ hK2
        simp only at hat hyl hp2 hb2 htk hdr hbf
        have cx := (h1.pre hp2).bk hbs
        simp only [Bk.cells] at cx
        -- the end of the inner loop: the block is stored
        have fin : ∀ (H3 : Heap) (fr : Fr), H2 <+: H3 → (∀ (r : Nat) (y : Bk), at_ = r + 1 → l[r]? = some y → before x y = false) →
            storeAt H3 nid (at_ * 3) x.cells = some (H3.set nid ⟨tri (ys.set at_ x), true, true⟩) ∧ Bl 3 H (H3.set nid ⟨tri (ys.set at_ x), true, true⟩) nid (tri (sortB (bs.take (s + 1)))) (s + 1) := by
          intro H3 fr hp3 hstop
          have hb3 : H3[nid]? = some ⟨tri ys, true, true⟩ := Same.get (S := fun _ => False) (Same.of_prefix hp3) hb2 (fun h => h)
          have hlt3 := (List.getElem?_eq_some_iff.1 hb3).1
          refine ⟨storeBk hb3 (by omega), ?_, ⟨?_, .inr ?_⟩, hge⟩
          · have hsame : Same (fun j => j = nid) H3 (H3.set nid ⟨tri (ys.set at_ x), true, true⟩) := ⟨by simp, fun j hj hS => List.getElem?_set_ne (fun e => hS e.symm)⟩
            exact ((Same.of_prefix (hp2.trans hp3)).trans hsame).prefix (by intro j hj e; omega)
          · rw [tri_length, sortB_length (s + 1) _ (by simp; omega)]
          · rw [List.getElem?_set_self hlt3, hsn, insR_at (k := at_) (by omega) hbf hstop]
            have e : ys.set at_ x = l.take at_ ++ x :: l.drop at_ := by
              rw [List.set_eq_take_append_cons_drop, if_pos (by omega), htk, hdr]
            rw [e]
        by_cases h0 : at_ = 0
        · subst h0
          obtain ⟨hst, hb5⟩ := fin H2 [] (List.prefix_refl _) (by intro r y e; omega)
          simp only [Bk.cells, Nat.zero_mul] at hst
          refine AWp.draw mixed [(0, false), (1, false), (2, false), (3, false), (4, false), (5, false), (6, false), (7, false), (8, false), (9, false), (10, false), (11, false), (12, false), (13, false)] (by kernel_rfl) ?_
          simp (maxSteps := 1000000) [go_sem, undef, hlt, cx, hst, hw_s]
          exact hK (s + 1, nid) _ _ (by simp only; omega) (by simp [upF, Fr.get, Up.refl]) ⟨by simp only; omega, hb5⟩
        · obtain ⟨r, rfl⟩ : ∃ r, at_ = r + 1 := ⟨at_ - 1, by omega⟩
          have hrl : r < l.length := by omega
          obtain ⟨y, hy⟩ : ∃ y, l[r]? = some y := ⟨l[r], List.getElem?_eq_getElem hrl⟩
          have hyr : ys[r]? = some y := by
            have := congrArg (fun z : List Bk => z[r]?) htk
            simp only [List.getElem?_take, if_pos (show r < r + 1 by omega)] at this
            rw [this]; exact hy
          have cy : ∀ {H3 : Heap}, H2 <+: H3 → cellsAt H3 nid (r * 3) 3 = some [.int .i64 y.a, .int .i64 y.b, .int .i64 y.c] := by
            intro H3 hp3
            have hb3 : H3[nid]? = some ⟨tri ys, true, true⟩ := Same.get (S := fun _ => False) (Same.of_prefix hp3) hb2 (fun h => h)
            have hat3 : At H3 nid 0 (tri ys) := Holds.at ⟨true, hb3⟩
            have := hat3.bk hyr
            simpa [Bk.cells] using this
          have cy2 := cy (List.prefix_refl H2)
          have hr1 : r < s + 1 := by omega
          have hr2 : r < s := by omega
          have hr3 : (r : Int) < (s : Int) + 1 := by omega
          have hr4 : (r : Int) < (s : Int) := by omega
          have hr5 : (0 : Int) < (r : Int) + 1 := by omega
          have hwr : IntKind.i64.wrap (r : Int) = (r : Int) := i64w (by omega) (by omega)
          refine AWp.draw mixed [(0, false), (1, false), (2, false), (3, false), (4, false), (5, false), (6, false), (7, false), (8, false), (9, false), (10, false), (11, false), (12, false), (13, false)] (by kernel_rfl) ?_
          simp (maxSteps := 1000000) [go_sem, hlt, cx, cy2, hr1, hr2, hr3, hr4, hr5, hwr]
          refine l01Before_ok (b := x) (d := y) _ ?_
          intro H3 hp3
          cases hbxy : before x y with
          | false =>
            obtain ⟨hst, hb5⟩ := fin H3 [] hp3 (by
              intro r' y' e hy'
              have : r' = r := by omega
              subst this; rw [hy] at hy'; cases hy'; exact hbxy)
            simp only [Bk.cells] at hst
            have cx3 := (h1.pre (hp2.trans hp3)).bk hbs
            simp only [Bk.cells] at cx3
            simp (maxSteps := 1000000) [go_sem, hp3, hlt, cx3, hst, hw_s, hr1, hr2, hr3, hr4]
            exact andK_intro (by omega) (hK (s + 1, nid) _ _ (by simp only; omega) (by simp [upF, Fr.get, Up.refl]) ⟨by simp only; omega, hb5⟩)
          | true =>
            have hb3 : H3[nid]? = some ⟨tri ys, true, true⟩ := Same.get (S := fun _ => False) (Same.of_prefix hp3) hb2 (fun h => h)
            have hlt3 := (List.getElem?_eq_some_iff.1 hb3).1
            have hst := storeBk (b := y) (s := r + 1) hb3 (by omega)
            simp only [Bk.cells] at hst
            have cy3 := cy hp3
            simp (maxSteps := 1000000) [go_sem, hp3, cy3, hst, hwr, hr1, hr2, hr3, hr4]
            refine andK_intro (by omega) (hK2 (r, ys.set (r + 1) y) _ _ (by simp only; omega) (by simp [upF, Fr.get, Up.refl]) ⟨by simp only; omega, by simp [hyl], ?_, ?_, ?_, ?_, ?_⟩)
            · have hsame : Same (fun j => j = nid) H3 (H3.set nid ⟨tri (ys.set (r + 1) y), true, true⟩) := ⟨by simp, fun j hj hS => List.getElem?_set_ne (fun e => hS e.symm)⟩
              exact ((Same.of_prefix (hp2.trans hp3)).trans hsame).prefix (by intro j hj e; omega)
            · simp only; rw [List.getElem?_set_self hlt3]
            · simp only
              have := congrArg (List.take r) htk
              rw [List.take_take, List.take_take, Nat.min_eq_left (by omega)] at this
              rw [List.take_set_of_le (by omega)]; exact this
            · simp only
              rw [List.drop_eq_getElem_cons (by simp; omega), List.getElem_set_self, List.drop_set_of_lt (by omega), hdr]
              rw [List.drop_eq_getElem_cons hrl]
              congr 1
              rw [List.getElem?_eq_getElem hrl] at hy; exact (Option.some.inj hy).symm
            · simp only
              intro z hz
              rw [List.drop_eq_getElem_cons hrl] at hz
              rcases List.mem_cons.1 hz with rfl | hz
              · rw [List.getElem?_eq_getElem hrl] at hy; rw [Option.some.inj hy]; exact hbxy
              · exact hbf z hz
    · have : s = bs.length := by omega
      subst this
      simp (maxSteps := 1000000) [go_sem]
      rw [List.take_length] at hbl
      refine ⟨_, Up.refl _ _, h H' _ hbl.1 ?_⟩
      have hsl := sortB_length bs.length bs rfl
      have := OwnBlocks.inn (OwnBlocks.of_ol (bs := sortB bs) (by rw [hsl]; exact hbl.2.1) (by omega)) hbl.2.2
      rwa [hsl] at this

end Go.Proofs.Ytdfeoccjllljiaa
end

section
/- The part of a system on some points: plain words, and the specification's side. -/
set_option linter.all false
set_option maxRecDepth 20000
set_option maxHeartbeats 4000000
namespace Go.Proofs.Ytdfeoccjllljiaa
open Go.Ab

/-- Blocks that ascend, each against all behind it. -/
def Asc (bs : List Bk) : Prop := bs.Pairwise fun x y => before x y = true
theorem before_iff {x y : Bk} : before x y = true ↔ x.a < y.a ∨ (x.a = y.a ∧ (x.b < y.b ∨ (x.b = y.b ∧ x.c < y.c))) := by
  unfold before
  by_cases h1 : x.a = y.a
  · by_cases h2 : x.b = y.b
    · simp [h1, h2]
    · simp [h1, h2]
  · simp [h1]
theorem before_trans {x y z : Bk} (h1 : before x y = true) (h2 : before y z = true) : before x z = true := by
  rw [before_iff] at *; omega
theorem before_asymm {x y : Bk} (h1 : before x y = true) : before y x = false := by
  cases h : before y x with
  | false => rfl
  | true => rw [before_iff] at h h1; omega
theorem sortB_asc {bs : List Bk} (h : Asc bs) : sortB bs = bs := by
  have := sortB_same (bs := bs) (fun r x y hy hx => ?_) bs.length
  · rwa [List.take_of_length_le (Nat.le_refl _)] at this
  · obtain ⟨h1, rfl⟩ := List.getElem?_eq_some_iff.1 hy
    obtain ⟨h2, rfl⟩ := List.getElem?_eq_some_iff.1 hx
    exact before_asymm (List.pairwise_iff_getElem.1 h r (r + 1) h1 h2 (by omega))

theorem l01Made_ok {H : Heap} {u : Value} {v : Int} {bs : List Bk} (hu : BlocksAt H u bs) (hl : bs.length ≤ 1048576) (Post : Value → Heap → Prop)
    (h : ∀ H' w, H <+: H' → BlocksIn H.length H'.length H' w (sortB bs) → Post (sysV v w) H') : ACalls Try.prog 79 [.int .i64 v, u] H Post := by
  refine acalls_vc (rs := [.cell 4 38]) Try.func79 rfl rfl Try.ntmps79 rfl rfl ?_
  simp (maxSteps := 1000000) [go_sem, hu.one]
  have hp0 : H <+: H ++ [⟨[.int .i64 0, .slice none 0 0], true, true⟩] := List.prefix_append _ _
  have hb0 : (H ++ [(⟨[.int .i64 0, .slice none 0 0], true, true⟩ : Blk)])[H.length]? = some ⟨[.int .i64 0, .slice none 0 0], true, true⟩ := by simp
  generalize H ++ [(⟨[.int .i64 0, .slice none 0 0], true, true⟩ : Blk)] = H0 at hp0 hb0 ⊢
  refine l01Sort_ok (hu.pre hp0) hl _ ?_
  intro H1 w hp1 hw
  have hb1 := Same.get (S := fun _ => False) (Same.of_prefix hp1) hb0 (fun h => h)
  have hlt := (List.getElem?_eq_some_iff.1 hb1).1
  obtain ⟨id, rfl⟩ : ∃ id, w = lv 3 id 0 (sortB bs).length := by obtain ⟨id, h, _⟩ := hw; exact ⟨id, h.1⟩
  have ho := hw.one
  have hst : storeAt H1 H.length 0 [.int .i64 v, lv 3 id 0 (sortB bs).length] = some (H1.set H.length ⟨[.int .i64 v, lv 3 id 0 (sortB bs).length], true, true⟩) := by
    rw [storeAt_of hb1 rfl rfl (by simp) (by simp [Value.oneCell'])]; simp [over]
  have hld : cellsAt (H1.set H.length ⟨[.int .i64 v, lv 3 id 0 (sortB bs).length], true, true⟩) H.length 0 2 = some [.int .i64 v, lv 3 id 0 (sortB bs).length] := by
    have := Holds.cells (n := 2) (o := 0) (H := H1.set H.length ⟨[.int .i64 v, lv 3 id 0 (sortB bs).length], true, true⟩) ⟨true, List.getElem?_set_self hlt⟩ (by simp)
    rw [this]; rfl
  simp (maxSteps := 1000000) [go_sem, ho, hst, hld]
  have hsame : Same (fun j => j = H.length) H1 (H1.set H.length ⟨[.int .i64 v, lv 3 id 0 (sortB bs).length], true, true⟩) := ⟨by simp, fun j hj hS => List.getElem?_set_ne (fun e => hS e.symm)⟩
  have hle0 := hp0.length_le
  have hlt0 := (List.getElem?_eq_some_iff.1 hb0).1
  have := h (H1.set H.length ⟨[.int .i64 v, lv 3 id 0 (sortB bs).length], true, true⟩) _ (((Same.of_prefix (hp0.trans hp1)).trans hsame).prefix (by intro j hj e; omega))
    (by
      have := (hw.keep hsame (by rintro j ⟨h1, h2⟩ e; omega)).wider hle0
      rwa [List.length_set])
  exact this

end Go.Proofs.Ytdfeoccjllljiaa
end

section
/- Sorting blocks: there is one ascending list of the same blocks. Plain Lean. -/
set_option linter.all false
namespace Go.Proofs.Ytdfeoccjllljiaa
open Go.Ab Go.Sort

theorem before_false {x y : Bk} : before x y = false ↔ ¬ (x.a < y.a ∨ (x.a = y.a ∧ (x.b < y.b ∨ (x.b = y.b ∧ x.c < y.c)))) := by rw [← before_iff]; simp
theorem swoB : SWO before := by
  refine ⟨fun x => ?_, fun x y z h1 h2 => before_trans h1 h2, fun x y z h1 h2 => ?_⟩
  · rw [before_false]; omega
  · rw [before_false] at *; omega
theorem insRev_perm (x : Bk) : ∀ l : List Bk, (insRev x l).Perm (x :: l)
  | [] => List.Perm.refl _
  | y :: l => by
    simp only [insRev]
    split
    · exact ((insRev_perm x l).cons y).trans (List.Perm.swap x y l)
    · exact List.Perm.refl _
theorem insR_perm (x : Bk) (l : List Bk) : (insR x l).Perm (x :: l) := by
  unfold insR
  exact ((List.reverse_perm _).trans (insRev_perm x _)).trans ((List.reverse_perm l).cons x)
theorem sortB_perm : ∀ (n : Nat) (bs : List Bk), bs.length = n → (sortB bs).Perm bs
  | 0, bs, h => by have := List.eq_nil_of_length_eq_zero h; subst this; exact List.Perm.refl _
  | n + 1, bs, h => by
    have hne : bs ≠ [] := by rintro rfl; simp at h
    have e := List.dropLast_concat_getLast hne
    rw [← e, sortB_snoc]
    refine (insR_perm _ _).trans ?_
    refine ((sortB_perm n _ (by simp [h])).cons _).trans ?_
    exact (List.perm_append_singleton _ _).symm
theorem insRev_sorted (x : Bk) : ∀ {l : List Bk}, l.Pairwise (fun a b => before a b = false) → (insRev x l).Pairwise (fun a b => before a b = false)
  | [], _ => by simp [insRev]
  | y :: l, h => by
    rw [List.pairwise_cons] at h
    simp only [insRev]
    split
    · rename_i hb
      rw [List.pairwise_cons]
      refine ⟨fun z hz => ?_, insRev_sorted x h.2⟩
      rcases List.mem_cons.1 ((insRev_perm x l).mem_iff.1 hz) with rfl | hz
      · exact before_asymm hb
      · exact h.1 z hz
    · rename_i hb
      have hb : before x y = false := by simpa using hb
      rw [List.pairwise_cons]
      refine ⟨fun z hz => ?_, List.pairwise_cons.2 h⟩
      rcases List.mem_cons.1 hz with rfl | hz
      · exact hb
      · exact swoB.ntrans _ _ _ hb (h.1 z hz)
theorem insR_sorted (x : Bk) {l : List Bk} (h : l.Pairwise (fun a b => before b a = false)) : (insR x l).Pairwise (fun a b => before b a = false) := by
  unfold insR
  rw [List.pairwise_reverse]
  exact insRev_sorted x (List.pairwise_reverse.2 h)
theorem sortB_sorted : ∀ (n : Nat) (bs : List Bk), bs.length = n → (sortB bs).Pairwise (fun a b => before b a = false)
  | 0, bs, h => by have := List.eq_nil_of_length_eq_zero h; subst this; exact List.Pairwise.nil
  | n + 1, bs, h => by
    have hne : bs ≠ [] := by rintro rfl; simp at h
    rw [← List.dropLast_concat_getLast hne, sortB_snoc]
    exact insR_sorted _ (sortB_sorted n _ (by simp [h]))
theorem sort_uniq {bs l : List Bk} (hp : l.Perm bs) (hs : l.Pairwise (fun x y => before y x = false)) : l = sortB bs := by
  refine (hp.trans (sortB_perm _ bs rfl).symm).eq_of_pairwise ?_ hs (sortB_sorted _ bs rfl)
  intro x y _ _ h1 h2
  rw [before_false] at h1 h2
  rw [Bk.eq3]; omega

end Go.Proofs.Ytdfeoccjllljiaa
end

section
/- Numbers in ascending order, the block of three numbers, lists that have the numbers below n once each. Plain Lean. -/
set_option linter.all false
set_option maxRecDepth 20000
namespace Go.Proofs.Ytdfeoccjllljiaa
open Go.Ab Go.Sort

def ltI (x y : Int) : Bool := decide (x < y)
theorem swoI : SWO ltI := by
  refine ⟨fun x => ?_, fun x y z h1 h2 => ?_, fun x y z h1 h2 => ?_⟩ <;> simp only [ltI, decide_eq_true_eq, decide_eq_false_iff_not] at * <;> omega
/-- Ascending, equal numbers side by side. -/
def AscI (l : List Int) : Prop := l.Pairwise (fun x y => ltI y x = false)
theorem AscI.get {l : List Int} (h : AscI l) {i j : Nat} (hi : i < l.length) (hj : j < l.length) (hij : i < j) : l[i] ≤ l[j] := by
  have := List.pairwise_iff_getElem.1 h i j hi hj hij
  simp only [ltI, decide_eq_false_iff_not] at this; omega
theorem int_uniq {l m : List Int} (hp : l.Perm m) (h1 : AscI l) (h2 : AscI m) : l = m :=
  hp.eq_of_pairwise (by intro x y _ _ a b; simp only [ltI, decide_eq_false_iff_not] at a b; omega) h1 h2

/-- The block of three numbers. -/
def blk (a b c : Int) : Bk := ⟨min a (min b c), a + b + c - min a (min b c) - max a (max b c), max a (max b c)⟩
def Bk.list (b : Bk) : List Int := [b.a, b.b, b.c]
theorem perm3 {a b c x y z : Int} (h : (x = a ∧ y = b ∧ z = c) ∨ (x = a ∧ y = c ∧ z = b) ∨ (x = b ∧ y = a ∧ z = c) ∨ (x = b ∧ y = c ∧ z = a) ∨ (x = c ∧ y = a ∧ z = b) ∨ (x = c ∧ y = b ∧ z = a)) : [x, y, z].Perm [a, b, c] := by
  rw [List.perm_iff_count]
  intro t
  simp only [List.count_cons, List.count_nil]
  rcases h with ⟨rfl, rfl, rfl⟩ | ⟨rfl, rfl, rfl⟩ | ⟨rfl, rfl, rfl⟩ | ⟨rfl, rfl, rfl⟩ | ⟨rfl, rfl, rfl⟩ | ⟨rfl, rfl, rfl⟩ <;> omega
theorem blk_perm (a b c : Int) : (Bk.list (blk a b c)).Perm [a, b, c] := by
  unfold Bk.list blk
  apply perm3
  simp only
  omega
theorem blk_asc (a b c : Int) : AscI (Bk.list (blk a b c)) := by
  unfold AscI Bk.list blk
  simp only [List.pairwise_cons, List.mem_cons, List.not_mem_nil, or_false, ltI, decide_eq_false_iff_not]
  refine ⟨?_, ?_, ?_, List.Pairwise.nil⟩
  · rintro y (rfl | rfl) <;> omega
  · rintro y rfl; omega
  · rintro y h; exact h.elim
theorem blk_sorted {a b c : Int} {l : List Int} (hp : l.Perm [a, b, c]) (hs : AscI l) : l = Bk.list (blk a b c) :=
  int_uniq (hp.trans (blk_perm a b c).symm) hs (blk_asc a b c)
end Go.Proofs.Ytdfeoccjllljiaa
end

section
/- slices.Values, slices.Collect, slices.Sorted over numbers, in abstract terms; isOrder. -/
set_option linter.all false
set_option maxRecDepth 20000
set_option maxHeartbeats 4000000
namespace Go.Ab
open Go.RowKit (Below)

end Go.Ab
namespace Go.Proofs.Ytdfeoccjllljiaa
open Go.Ab Go.Sort

theorem cmpLess {id : Nat} {H : Heap} : CmpO ltI (fun _ => True) id H := by
  intro H x y Post _ _ _ h
  exact cmpLess_ok _ (h H _ (List.prefix_refl _) rfl)

theorem sortO0_ok {H : Heap} {id : Nat} (Post : Value → Heap → Prop) (h : Post (.tuple #[]) H) : ACalls Try.prog 161 [lv 1 id 0 0] H Post := by
  refine acalls_vc (rs := []) Try.func161 rfl rfl Try.ntmps161 rfl rfl ?_
  simp (maxSteps := 1000000) [go_sem, wu64_0O]
  refine bitsLenC_ok (x := 0) (by omega) _ ?_
  simp (maxSteps := 1000000) [go_sem]
  refine pdq0O_ok _ ?_
  simp (maxSteps := 1000000) [go_sem]
  exact h

theorem cellsI_ints (xs : List Int) : xs.flatMap cellsI = ints xs := by
  induction xs with
  | nil => rfl
  | cons x xs ih => rw [List.flatMap_cons, ih]; rfl

/-- slices.Sort over a list that the call holds alone. -/
theorem sortInts_ok {H : Heap} {id : Nat} {xs : List Int} (hb : xs = [] ∨ H[id]? = some ⟨ints xs, true, true⟩) (hl : xs.length ≤ 1048576) (Post : Value → Heap → Prop)
    (h : ∀ (H' : Heap) (ys : List Int), Same (fun k => k = id) H H' → (xs = [] → H' = H) → (ys = [] ∨ H'[id]? = some ⟨ints ys, true, true⟩) → ys.Perm xs → AscI ys → Post (.tuple #[]) H') :
    ACalls Try.prog 161 [lv 1 id 0 xs.length] H Post := by
  by_cases h0 : xs = []
  · subst h0
    exact sortO0_ok _ (h H [] (Same.refl _ _) (fun _ => rfl) (.inl rfl) (List.Perm.refl _) List.Pairwise.nil)
  · have hb := hb.resolve_left h0
    refine sortFuncO_ok (l := xs) (Q := fun _ => True) swoI ⟨by simp [cellsI_ints, ints], .inr (by rw [cellsI_ints]; exact hb)⟩ rfl hl (fun _ _ => trivial) cmpLess _ ?_
    intro H' ys hS hO hp hs
    refine h H' ys hS (fun e => absurd e h0) ?_ hp hs
    rcases hO.2 with ⟨e, _⟩ | e
    · exact absurd (List.eq_nil_of_length_eq_zero e) h0
    · right; rw [cellsI_ints] at e; exact e

end Go.Proofs.Ytdfeoccjllljiaa
end

section
/- The block of three numbers: blockOf, l01Block; isOrder. -/
set_option linter.all false
set_option maxRecDepth 20000
set_option maxHeartbeats 4000000
namespace Go.Proofs.Ytdfeoccjllljiaa
open Go.Ab Go.Sort

theorem blockOf_ok {H : Heap} {a b c : Int} (Post : Value → Heap → Prop) (h : ∀ H', H <+: H' → Post (blk a b c).val H') : ACalls Try.prog 120 [.int .i64 a, .int .i64 b, .int .i64 c] H Post := by
  refine acalls_vc (rs := [.cell 6 93]) Try.func120 rfl rfl Try.ntmps120 rfl rfl ?_
  simp (maxSteps := 1000000) [go_sem]
  have hp0 : H <+: H ++ [(⟨[.int .i64 0, .int .i64 0, .int .i64 0], true, true⟩ : Blk), ⟨[.int .i64 a, .int .i64 b, .int .i64 c], true, true⟩] := List.prefix_append _ _
  have hz : (H ++ [(⟨[.int .i64 0, .int .i64 0, .int .i64 0], true, true⟩ : Blk), ⟨[.int .i64 a, .int .i64 b, .int .i64 c], true, true⟩])[H.length]? = some ⟨[.int .i64 0, .int .i64 0, .int .i64 0], true, true⟩ := by simp
  have hx : (H ++ [(⟨[.int .i64 0, .int .i64 0, .int .i64 0], true, true⟩ : Blk), ⟨[.int .i64 a, .int .i64 b, .int .i64 c], true, true⟩])[H.length + 1]? = some ⟨ints [a, b, c], true, true⟩ := by simp [ints]
  have hlen : (H ++ [(⟨[.int .i64 0, .int .i64 0, .int .i64 0], true, true⟩ : Blk), ⟨[.int .i64 a, .int .i64 b, .int .i64 c], true, true⟩]).length = H.length + 2 := by simp
  generalize H ++ [(⟨[.int .i64 0, .int .i64 0, .int .i64 0], true, true⟩ : Blk), ⟨[.int .i64 a, .int .i64 b, .int .i64 c], true, true⟩] = H0 at hp0 hz hx hlen ⊢
  refine ACalls.up (args' := [lv 1 (H.length + 1) 0 [a, b, c].length]) ⟨Up.ex (by omega) (.inr (by rw [cellsAt_of hx rfl (by simp [ints])]; rfl)), trivial⟩ ?_
  refine sortInts_ok (xs := [a, b, c]) (.inr hx) (by simp) _ ?_
  intro H2 ys hS _ hb hp hs
  have hys := blk_sorted hp hs
  have hb := hb.resolve_left (by rw [hys]; simp [Bk.list])
  rw [hys] at hb
  have hz2 : H2[H.length]? = some ⟨[.int .i64 0, .int .i64 0, .int .i64 0], true, true⟩ := hS.get hz (by omega)
  have c3 : cellsAt H2 (H.length + 1) 0 3 = some [.int .i64 (blk a b c).a, .int .i64 (blk a b c).b, .int .i64 (blk a b c).c] := by
    rw [cellsAt_of hb rfl (by simp [ints, Bk.list])]; rfl
  have s3 : storeAt H2 H.length 0 [.int .i64 (blk a b c).a, .int .i64 (blk a b c).b, .int .i64 (blk a b c).c] = some (H2.set H.length ⟨[.int .i64 (blk a b c).a, .int .i64 (blk a b c).b, .int .i64 (blk a b c).c], true, true⟩) := by
    rw [storeAt_of hz2 rfl rfl (by simp) (by simp [Value.oneCell'])]; rfl
  have hlt := (List.getElem?_eq_some_iff.1 hz2).1
  have c4 : cellsAt (H2.set H.length ⟨[.int .i64 (blk a b c).a, .int .i64 (blk a b c).b, .int .i64 (blk a b c).c], true, true⟩) H.length 0 3 = some [.int .i64 (blk a b c).a, .int .i64 (blk a b c).b, .int .i64 (blk a b c).c] := by
    rw [cellsAt_of (List.getElem?_set_self hlt) rfl (by simp)]; rfl
  have fin := h (H2.set H.length ⟨[.int .i64 (blk a b c).a, .int .i64 (blk a b c).b, .int .i64 (blk a b c).c], true, true⟩) (((Same.of_prefix (S := fun k => k = H.length + 1 ∨ k = H.length) hp0).trans ⟨hS.1, fun j hj hn => hS.2 j hj (fun e => hn (.inl e))⟩).trans ⟨(same_set (id := H.length)).1, fun j hj hn => same_set.2 j hj (fun e => hn (.inr e))⟩ |>.prefix (by rintro j hj (e | e) <;> omega))
  unfold Bk.val at fin
  generalize H2.set H.length ⟨[.int .i64 (blk a b c).a, .int .i64 (blk a b c).b, .int .i64 (blk a b c).c], true, true⟩ = H3 at s3 c4 fin
  simp (maxSteps := 1000000) [go_sem, c3, s3, c4]
  exact fin

theorem l01Block_ok {H : Heap} {a b c : Int} (ha : 0 ≤ a ∧ a ≤ 1000) (hb : 0 ≤ b ∧ b ≤ 1000) (hc : 0 ≤ c ∧ c ≤ 1000) (Post : Value → Heap → Prop) (h : ∀ H', H <+: H' → Post (blk a b c).val H') : ACalls Try.prog 117 [.int .i64 a, .int .i64 b, .int .i64 c] H Post := by
  refine acalls_vc (rs := [.cell 6 93]) Try.func117 rfl rfl Try.ntmps117 rfl rfl ?_
  have e1 : (if c < (if b < a then b else a) then c else if b < a then b else a) = (blk a b c).a := by
    simp only [blk]; by_cases h1 : b < a <;> simp only [h1, if_true, if_false] <;> split <;> omega
  have e3 : (if (if a < b then b else a) < c then c else if a < b then b else a) = (blk a b c).c := by
    simp only [blk]; by_cases h1 : a < b <;> simp only [h1, if_true, if_false] <;> split <;> omega
  have e2 : IntKind.i64.wrap (IntKind.i64.wrap (IntKind.i64.wrap (IntKind.i64.wrap (a + b) + c) - (blk a b c).a) - (blk a b c).c) = (blk a b c).b := by
    have h1 : 0 ≤ (blk a b c).a ∧ (blk a b c).a ≤ 1000 := by simp only [blk]; omega
    have h3 : 0 ≤ (blk a b c).c ∧ (blk a b c).c ≤ 1000 := by simp only [blk]; omega
    rw [i64w (n := a + b) (by omega) (by omega), i64w (n := a + b + c) (by omega) (by omega), i64w (n := a + b + c - (blk a b c).a) (by omega) (by omega), i64w (by omega) (by omega)]
    simp only [blk]
  have fin := h (H ++ [⟨[.int .i64 (blk a b c).a, .int .i64 (blk a b c).b, .int .i64 (blk a b c).c], true, true⟩]) (List.prefix_append _ _)
  unfold Bk.val at fin
  generalize blk a b c = q at *
  simp (maxSteps := 1000000) [go_sem, e1, e2, e3]
  exact fin

end Go.Proofs.Ytdfeoccjllljiaa
end

section
/- Sorting by a function: insertion sort. -/
set_option linter.all false
set_option maxRecDepth 20000
set_option maxHeartbeats 4000000
namespace Go.Proofs.Ytdfeoccjllljiaa
open Go.Ab Go.Sort

theorem insB_ok {H : Heap} {id a b n : Nat} {d : Array Bk} {lt : Bk → Bk → Bool} {g : FuncId} {fs cs : List Value} {Q : Bk → Prop} (hA : Arr Bk.cells H id d) (hn : d.size = n) (hl : n ≤ 1048576) (hab : a ≤ b) (hb : b ≤ n) (hQ : QA Q d)
    (hC : Cmp Try.prog Bk.val lt g fs cs Q id H) (Post : Value → Heap → Prop) (h : ∀ H', Same (fun k => k = id) H H' → Arr Bk.cells H' id (insertionSort lt d a b) → Post (.tuple #[]) H') :
    ACalls Try.prog 208 [lv 3 id 0 n, .int .i64 a, .int .i64 b, .func (.func g) fs.toArray cs.toArray] H Post := by
  refine acalls_vc (rs := []) Try.func208 rfl rfl Try.ntmps208 rfl rfl ?_
  have w0 : IntKind.i64.wrap ((a : Int) + 1) = (a : Int) + 1 := i64w (by omega) (by omega)
  simp (maxSteps := 1000000) [go_sem, w0]
  refine AWp.loopVc (St := Nat × Array Bk) (fun s => [(0, lv 3 id 0 n), (1, .int .i64 a), (2, .int .i64 b), (3, .func (.func g) fs.toArray cs.toArray), (8, .int .i64 s.1)])
    (fun s H' => a + 1 ≤ s.1 ∧ s.1 ≤ n + 1 ∧ s.2.size = n ∧ QA Q s.2 ∧ Same (fun k => k = id) H H' ∧ Arr Bk.cells H' id s.2 ∧ insOuter lt a b s.1 s.2 = insertionSort lt d a b) (fun s => n + 1 - s.1) (a + 1, d) ?_ ?_ ?_
  · simp [upF, Fr.get, Up.refl]
  · exact ⟨Nat.le_refl _, by simp only; omega, hn, hQ, Same.refl _ _, hA, rfl⟩
  · rintro K ⟨i, d1⟩ H' ⟨hai, hin, hsz, hQ1, hS, hA1, hO⟩ hK
    simp only at hai hin hsz hQ1 hS hA1 hO
    rw [insOuter] at hO
    by_cases hlt : i < b
    · rw [if_pos hlt] at hO
      have hw_i : IntKind.i64.wrap ((i : Int) + 1) = (i : Int) + 1 := i64w (by omega) (by omega)
      simp (maxSteps := 1000000) [go_sem, hlt]
      refine AWp.loopVc (St := Nat × Array Bk) (fun s => [(0, lv 3 id 0 n), (1, .int .i64 a), (2, .int .i64 b), (3, .func (.func g) fs.toArray cs.toArray), (8, .int .i64 i), (9, .int .i64 s.1)])
        (fun s H2 => a ≤ s.1 ∧ s.1 ≤ i ∧ s.2.size = n ∧ QA Q s.2 ∧ Same (fun k => k = id) H H2 ∧ Arr Bk.cells H2 id s.2 ∧ insInner lt a s.1 s.2 = insInner lt a i d1) (fun s => s.1) (i, d1) ?_ ?_ ?_
      · simp [upF, Fr.get, Up.refl]
      · exact ⟨by simp only; omega, Nat.le_refl _, hsz, hQ1, hS, hA1, rfl⟩
      · rintro K2 ⟨j, d2⟩ H2 ⟨haj, hji, hsz2, hQ2, hS2, hA2, hI⟩ hK2
        simp only at haj hji hsz2 hQ2 hS2 hA2 hI
        by_cases hja : a < j
        · obtain ⟨r, rfl⟩ : ∃ r, j = r + 1 := ⟨j - 1, by omega⟩
          have hr1 : r + 1 < d2.size := by omega
          have hr0 : r < d2.size := by omega
          have c1 := hA2.load Bk.cells_len hr1
          have c0 := hA2.load Bk.cells_len hr0
          have q1 := hQ2 _ hr1
          have q0 := hQ2 _ hr0
          rw [insInner] at hI
          obtain ⟨x, hx⟩ : ∃ x, x = d2[r + 1]! := ⟨_, rfl⟩
          obtain ⟨y, hy⟩ : ∃ y, y = d2[r]! := ⟨_, rfl⟩
          rw [← hx] at c1 q1 hI
          rw [← hy] at c0 q0 hI
          have e1 : decide (r + 1 > a) = true := decide_eq_true hja
          rw [e1, Bool.true_and] at hI
          simp only [Bk.cells, Nat.mul_one, Row.val] at c1 c0
          have n1 : r + 1 < n := by omega
          have n0 : r < n := by omega
          have m1 : (r : Int) + 1 < n := by omega
          have m0 : (r : Int) < n := by omega
          have z1 : (0 : Int) ≤ (r : Int) + 1 := by omega
          have hwr : IntKind.i64.wrap (r : Int) = (r : Int) := i64w (by omega) (by omega)
          have ja : (a : Int) < (r : Int) + 1 := by omega
          refine AWp.draw mixed [(0, false), (1, false), (2, false), (3, false), (4, false), (5, false), (6, false), (7, false), (8, false), (9, false), (10, false), (11, false), (12, false), (13, false), (14, false), (15, false), (16, false)] (by kernel_rfl) ?_
          simp (maxSteps := 1000000) [go_sem, hja, ja, c1, c0, n1, n0, m1, m0, z1, hwr]
          refine hC H2 x y _ hS2 q1 q0 ?_
          intro H3 c hp3 hc
          have hS3 := hS2.via (Same.of_prefix (S := fun _ => False) hp3) (fun _ _ h => h.elim)
          have hA3 := hA2.pre hp3
          cases hxy : lt x y with
          | false =>
            rw [hxy] at hc hI
            have hc0 : ¬ c < 0 := by simpa using hc
            simp (maxSteps := 1000000) [go_sem, hc, hc0, hw_i]
            exact hK (i + 1, d2) _ _ (by simp only; omega) (by simp [upF, Fr.get, Up.refl]) ⟨by simp only; omega, by simp only; omega, hsz2, hQ2, hS3, hA3, by simp only; rw [← hO, ← hI]; simp⟩
          | true =>
            rw [hxy] at hc hI
            have hc0 : c < 0 := by simpa using hc
            have c1 := hA3.load Bk.cells_len hr1
            have c0 := hA3.load Bk.cells_len hr0
            obtain ⟨H4, H5, s1, s0, hA5, hS5, hl5⟩ := hA3.swap Bk.cells_len Bk.cells_one hr1 hr0
            rw [← hx] at c1 s0
            rw [← hy] at c0 s1
            simp only [Bk.cells, Nat.mul_one, Row.val] at c1 c0 s1 s0
            simp (maxSteps := 1000000) [go_sem, hc, hc0]
            refine AWp.draw mixed [(0, false), (1, false), (2, false), (3, false), (4, false), (5, false), (6, false), (7, false), (8, false), (9, false), (10, false), (11, false), (12, false), (13, false), (14, false), (15, false), (16, false), (17, false)] (by kernel_rfl) ?_
            simp (maxSteps := 1000000) [go_sem, c1, c0, n1, n0, m1, m0, z1, hwr, s1, s0]
            exact hK2 (r, swp d2 (r + 1) r) _ _ (by simp only; omega) (by simp [upF, Fr.get, Up.refl]) ⟨by simp only; omega, by simp only; omega, by rw [size_swp]; exact hsz2, hQ2.swp hr1 hr0, hS3.trans hS5, hA5, by simp only; rw [← hI]; simp⟩
        · have hja' : j = a := by omega
          subst hja'
          have e : insInner lt j j d2 = d2 := by
            cases j with
            | zero => rfl
            | succ r => rw [insInner]; simp
          refine AWp.draw mixed [(0, false), (1, false), (2, false), (3, false), (4, false), (5, false), (6, false), (7, false), (8, false), (9, false), (10, false), (11, false), (12, false), (13, false), (14, false), (15, false), (16, false)] (by kernel_rfl) ?_
          simp (maxSteps := 1000000) [go_sem, undef, hw_i]
          exact hK (i + 1, d2) _ _ (by simp only; omega) (by simp [upF, Fr.get, Up.refl]) ⟨by simp only; omega, by simp only; omega, hsz2, hQ2, hS2, hA2, by simp only; rw [← hO, ← hI, e]⟩
    · rw [if_neg hlt] at hO
      simp (maxSteps := 1000000) [go_sem, hlt]
      exact h H' hS (hO ▸ hA1)

end Go.Proofs.Ytdfeoccjllljiaa
end

section
/- Sorting by a function: the heap. -/
set_option linter.all false
set_option maxRecDepth 20000
set_option maxHeartbeats 4000000
namespace Go.Proofs.Ytdfeoccjllljiaa
open Go.Ab Go.Sort

theorem siftB_ok {H : Heap} {id lo hi first n : Nat} {d : Array Bk} {lt : Bk → Bk → Bool} {g : FuncId} {fs cs : List Value} {Q : Bk → Prop} (hA : Arr Bk.cells H id d) (hn : d.size = n) (hl : n ≤ 1048576) (hlo : lo ≤ n) (hhi : first + hi ≤ n) (hQ : QA Q d)
    (hC : Cmp Try.prog Bk.val lt g fs cs Q id H) (Post : Value → Heap → Prop) (h : ∀ H', Same (fun k => k = id) H H' → Arr Bk.cells H' id (siftDown lt hi first lo d) → Post (.tuple #[]) H') :
    ACalls Try.prog 225 [lv 3 id 0 n, .int .i64 lo, .int .i64 hi, .int .i64 first, .func (.func g) fs.toArray cs.toArray] H Post := by
  refine acalls_vc (rs := []) Try.func225 rfl rfl Try.ntmps225 rfl rfl ?_
  simp (maxSteps := 1000000) [go_sem]
  refine AWp.loopVc (St := Nat × Array Bk) (fun s => [(0, lv 3 id 0 n), (2, .int .i64 hi), (3, .int .i64 first), (4, .func (.func g) fs.toArray cs.toArray), (10, .int .i64 s.1)])
    (fun s H' => s.1 ≤ n ∧ s.2.size = n ∧ QA Q s.2 ∧ Same (fun k => k = id) H H' ∧ Arr Bk.cells H' id s.2 ∧ siftDown lt hi first s.1 s.2 = siftDown lt hi first lo d) (fun s => n - s.1) (lo, d) ?_ ?_ ?_
  · simp [upF, Fr.get, Up.refl]
  · exact ⟨hlo, hn, hQ, Same.refl _ _, hA, rfl⟩
  · rintro K ⟨root, d1⟩ H1 ⟨hr, hsz, hQ1, hS1, hA1, hO⟩ hK
    simp only at hr hsz hQ1 hS1 hA1 hO
    obtain ⟨ch, hch⟩ : ∃ ch, ch = 2 * root + 1 := ⟨_, rfl⟩
    obtain ⟨c2, hc2⟩ : ∃ c2, c2 = ch + 1 := ⟨_, rfl⟩
    obtain ⟨fr, hfr⟩ : ∃ fr, fr = first + root := ⟨_, rfl⟩
    obtain ⟨fc, hfc⟩ : ∃ fc, fc = first + ch := ⟨_, rfl⟩
    obtain ⟨fc2, hfc2⟩ : ∃ fc2, fc2 = first + c2 := ⟨_, rfl⟩
    have w1 : IntKind.i64.wrap (2 * (root : Int)) = 2 * (root : Int) := i64w (by omega) (by omega)
    have w2 : IntKind.i64.wrap (2 * (root : Int) + 1) = (ch : Int) := by rw [hch]; rw [i64w (by omega) (by omega)]; omega
    have w3 : IntKind.i64.wrap ((ch : Int) + 1) = (c2 : Int) := by rw [hc2]; rw [i64w (by omega) (by omega)]; omega
    by_cases hh : hi ≤ ch
    · rw [sift_end hch hh] at hO
      have hh' : (hi : Int) ≤ ch := by omega
      simp (maxSteps := 1000000) [go_sem, w1, w2, hh, hh']
      exact h H1 hS1 (hO ▸ hA1)
    · rw [sift_step hch hc2 hfr hfc hfc2 hh] at hO
      have hh' : ¬ ((hi : Int) ≤ ch) := by omega
      have hh2 : ch < hi := by omega
      have w4 : IntKind.i64.wrap ((first : Int) + root) = (fr : Int) := by rw [hfr]; rw [i64w (by omega) (by omega)]; omega
      have w5 : IntKind.i64.wrap ((first : Int) + ch) = (fc : Int) := by rw [hfc]; rw [i64w (by omega) (by omega)]; omega
      have w6 : IntKind.i64.wrap ((first : Int) + c2) = (fc2 : Int) := by rw [hfc2]; rw [i64w (by omega) (by omega)]; omega
      have w7 : IntKind.i64.wrap ((fc : Int) + 1) = (fc2 : Int) := by rw [hfc2, hfc, hc2]; rw [i64w (by omega) (by omega)]; omega
      have hfr1 : fr < d1.size := by omega
      have hfc1 : fc < d1.size := by omega
      have n1 : fr < n := by omega
      have n2 : fc < n := by omega
      obtain ⟨x, hx⟩ : ∃ x, x = d1[fr]! := ⟨_, rfl⟩
      obtain ⟨y, hy⟩ : ∃ y, y = d1[fc]! := ⟨_, rfl⟩
      obtain ⟨z, hz⟩ : ∃ z, z = d1[fc2]! := ⟨_, rfl⟩
      rw [← hx, ← hy, ← hz] at hO
      have qx := hQ1 _ hfr1
      have qy := hQ1 _ hfc1
      rw [← hx] at qx
      rw [← hy] at qy
      have cy := hA1.load Bk.cells_len hfc1
      rw [← hy] at cy
      simp only [Bk.cells, Nat.mul_one, Row.val] at cy
      by_cases h2 : c2 < hi
      · have h2' : (c2 : Int) < hi := by omega
        have hfc21 : fc2 < d1.size := by omega
        have n3 : fc2 < n := by omega
        have qz := hQ1 _ hfc21
        rw [← hz] at qz
        have cz := hA1.load Bk.cells_len hfc21
        rw [← hz] at cz
        simp only [Bk.cells, Nat.mul_one, Row.val] at cz
        have e2 : decide (c2 < hi) = true := decide_eq_true h2
        rw [e2, Bool.true_and] at hO
        simp (maxSteps := 1000000) [go_sem, w1, w2, w3, hh, hh', hh2]
        refine AWp.draw mixed [(0, false), (1, false), (2, false), (3, false), (4, false), (5, false), (6, false), (7, false), (8, false), (9, false), (10, false), (11, false), (12, false), (13, false), (14, false), (15, false), (16, false), (17, false), (18, false), (19, false), (20, false), (21, false)] (by kernel_rfl) ?_
        simp (maxSteps := 1000000) [go_sem, w3, w5, w7, h2, h2', cy, cz, n2, n3]
        refine hC H1 y z _ hS1 qy qz ?_
        intro H3 c hp3 hc
        have hS3 := hS1.via (Same.of_prefix (S := fun _ => False) hp3) (fun _ _ h => h.elim)
        have hA3 := hA1.pre hp3
        have cx := hA3.load Bk.cells_len hfr1
        rw [← hx] at cx
        simp only [Bk.cells, Nat.mul_one, Row.val] at cx
        cases hyz : lt y z with
        | true =>
          rw [hyz] at hc hO
          have hc0 : c < 0 := by simpa using hc
          have cz := hA3.load Bk.cells_len hfc21
          rw [← hz] at cz
          simp only [Bk.cells, Nat.mul_one, Row.val] at cz
          simp (maxSteps := 1000000) [go_sem, hc, hc0, w3]
          refine AWp.draw mixed [(0, false), (1, false), (2, false), (3, false), (4, false), (5, false), (6, false), (7, false), (8, false), (9, false), (10, false), (11, false), (12, false), (13, false), (14, false), (15, false)] (by kernel_rfl) ?_
          simp (maxSteps := 1000000) [go_sem, w4, w6, cx, cz, n1, n3]
          refine hC H3 x z _ hS3 qx qz ?_
          intro H4 e hp4 he
          have hS4 := hS3.via (Same.of_prefix (S := fun _ => False) hp4) (fun _ _ h => h.elim)
          have hA4 := hA3.pre hp4
          cases hxz : lt x z with
          | false =>
            rw [hxz] at he hO
            have he0 : ¬ e < 0 := by simpa using he
            simp (maxSteps := 1000000) [go_sem, he, he0]
            exact h H4 hS4 (by simpa [← hO] using hA4)
          | true =>
            rw [hxz] at he hO
            have he0 : e < 0 := by simpa using he
            have ca := hA4.load Bk.cells_len hfr1
            have cb := hA4.load Bk.cells_len hfc21
            obtain ⟨H5, H6, s1, s0, hA6, hS6, hl6⟩ := hA4.swap Bk.cells_len Bk.cells_one hfr1 hfc21
            rw [← hx] at ca s0
            rw [← hz] at cb s1
            simp only [Bk.cells, Nat.mul_one, Row.val] at ca cb s0 s1
            simp (maxSteps := 1000000) [go_sem, he, he0]
            refine AWp.draw mixed [(0, false), (1, false), (2, false), (3, false), (4, false), (5, false), (6, false), (7, false), (8, false), (9, false), (10, false), (11, false), (12, false), (13, false), (14, false), (15, false), (16, false), (17, false), (18, false), (19, false), (20, false), (21, false), (22, false), (23, false)] (by kernel_rfl) ?_
            simp (maxSteps := 1000000) [go_sem, w4, w6, ca, cb, n1, n3, s1, s0]
            exact hK (c2, swp d1 fr fc2) _ _ (by simp only; omega) (by simp [upF, Fr.get, Up.refl]) ⟨by simp only; omega, by rw [size_swp]; exact hsz, hQ1.swp hfr1 hfc21, hS4.trans hS6, hA6, by simp only; rw [← hO]; simp⟩
        | false =>
          rw [hyz] at hc hO
          have hc0 : ¬ c < 0 := by simpa using hc
          have cy := hA3.load Bk.cells_len hfc1
          rw [← hy] at cy
          simp only [Bk.cells, Nat.mul_one, Row.val] at cy
          simp (maxSteps := 1000000) [go_sem, hc, hc0]
          refine AWp.draw mixed [(0, false), (1, false), (2, false), (3, false), (4, false), (5, false), (6, false), (7, false), (8, false), (9, false), (10, false), (11, false), (12, false), (13, false), (14, false), (15, false)] (by kernel_rfl) ?_
          simp (maxSteps := 1000000) [go_sem, w4, w5, cx, cy, n1, n2]
          refine hC H3 x y _ hS3 qx qy ?_
          intro H4 e hp4 he
          have hS4 := hS3.via (Same.of_prefix (S := fun _ => False) hp4) (fun _ _ h => h.elim)
          have hA4 := hA3.pre hp4
          cases hxz : lt x y with
          | false =>
            rw [hxz] at he hO
            have he0 : ¬ e < 0 := by simpa using he
            simp (maxSteps := 1000000) [go_sem, he, he0]
            exact h H4 hS4 (by simpa [← hO] using hA4)
          | true =>
            rw [hxz] at he hO
            have he0 : e < 0 := by simpa using he
            have ca := hA4.load Bk.cells_len hfr1
            have cb := hA4.load Bk.cells_len hfc1
            obtain ⟨H5, H6, s1, s0, hA6, hS6, hl6⟩ := hA4.swap Bk.cells_len Bk.cells_one hfr1 hfc1
            rw [← hx] at ca s0
            rw [← hy] at cb s1
            simp only [Bk.cells, Nat.mul_one, Row.val] at ca cb s0 s1
            simp (maxSteps := 1000000) [go_sem, he, he0]
            refine AWp.draw mixed [(0, false), (1, false), (2, false), (3, false), (4, false), (5, false), (6, false), (7, false), (8, false), (9, false), (10, false), (11, false), (12, false), (13, false), (14, false), (15, false), (16, false), (17, false), (18, false), (19, false), (20, false), (21, false), (22, false), (23, false)] (by kernel_rfl) ?_
            simp (maxSteps := 1000000) [go_sem, w4, w5, ca, cb, n1, n2, s1, s0]
            exact hK (ch, swp d1 fr fc) _ _ (by simp only; omega) (by simp [upF, Fr.get, Up.refl]) ⟨by simp only; omega, by rw [size_swp]; exact hsz, hQ1.swp hfr1 hfc1, hS4.trans hS6, hA6, by simp only; rw [← hO]; simp⟩
      · have h2' : ¬ ((c2 : Int) < hi) := by omega
        have e2 : decide (c2 < hi) = false := decide_eq_false h2
        rw [e2, Bool.false_and] at hO
        have hA3 := hA1
        have hS3 := hS1
        have cx := hA3.load Bk.cells_len hfr1
        rw [← hx] at cx
        simp only [Bk.cells, Nat.mul_one, Row.val] at cx
        simp (maxSteps := 1000000) [go_sem, w1, w2, w3, hh, hh', hh2]
        refine AWp.draw mixed [(0, false), (1, false), (2, false), (3, false), (4, false), (5, false), (6, false), (7, false), (8, false), (9, false), (10, false), (11, false), (12, false), (13, false), (14, false), (15, false), (16, false), (17, false), (18, false), (19, false), (20, false), (21, false)] (by kernel_rfl) ?_
        simp (maxSteps := 1000000) [go_sem, undef, w3, h2, h2']
        obtain ⟨H3, eH3⟩ : ∃ H3, H3 = H1 := ⟨_, rfl⟩
        rw [← eH3] at hA3 hS3 cx cy ⊢
        refine AWp.draw mixed [(0, false), (1, false), (2, false), (3, false), (4, false), (5, false), (6, false), (7, false), (8, false), (9, false), (10, false), (11, false), (12, false), (13, false), (14, false), (15, false)] (by kernel_rfl) ?_
        simp (maxSteps := 1000000) [go_sem, w4, w5, cx, cy, n1, n2]
        refine hC H3 x y _ hS3 qx qy ?_
        intro H4 e hp4 he
        have hS4 := hS3.via (Same.of_prefix (S := fun _ => False) hp4) (fun _ _ h => h.elim)
        have hA4 := hA3.pre hp4
        cases hxz : lt x y with
        | false =>
          rw [hxz] at he hO
          have he0 : ¬ e < 0 := by simpa using he
          simp (maxSteps := 1000000) [go_sem, he, he0]
          exact h H4 hS4 (by simpa [← hO] using hA4)
        | true =>
          rw [hxz] at he hO
          have he0 : e < 0 := by simpa using he
          have ca := hA4.load Bk.cells_len hfr1
          have cb := hA4.load Bk.cells_len hfc1
          obtain ⟨H5, H6, s1, s0, hA6, hS6, hl6⟩ := hA4.swap Bk.cells_len Bk.cells_one hfr1 hfc1
          rw [← hx] at ca s0
          rw [← hy] at cb s1
          simp only [Bk.cells, Nat.mul_one, Row.val] at ca cb s0 s1
          simp (maxSteps := 1000000) [go_sem, he, he0]
          refine AWp.draw mixed [(0, false), (1, false), (2, false), (3, false), (4, false), (5, false), (6, false), (7, false), (8, false), (9, false), (10, false), (11, false), (12, false), (13, false), (14, false), (15, false), (16, false), (17, false), (18, false), (19, false), (20, false), (21, false), (22, false), (23, false)] (by kernel_rfl) ?_
          simp (maxSteps := 1000000) [go_sem, w4, w5, ca, cb, n1, n2, s1, s0]
          exact hK (ch, swp d1 fr fc) _ _ (by simp only; omega) (by simp [upF, Fr.get, Up.refl]) ⟨by simp only; omega, by rw [size_swp]; exact hsz, hQ1.swp hfr1 hfc1, hS4.trans hS6, hA6, by simp only; rw [← hO]; simp⟩

theorem heapB_ok {H : Heap} {id a b n : Nat} {d : Array Bk} {lt : Bk → Bk → Bool} {g : FuncId} {fs cs : List Value} {Q : Bk → Prop} (hA : Arr Bk.cells H id d) (hn : d.size = n) (hl : n ≤ 1048576) (hab : a < b) (hb : b ≤ n) (hQ : QA Q d)
    (hC : Cmp Try.prog Bk.val lt g fs cs Q id H) (Post : Value → Heap → Prop) (h : ∀ H', Same (fun k => k = id) H H' → Arr Bk.cells H' id (heapSort lt d a b) → Post (.tuple #[]) H') :
    ACalls Try.prog 209 [lv 3 id 0 n, .int .i64 a, .int .i64 b, .func (.func g) fs.toArray cs.toArray] H Post := by
  refine acalls_vc (rs := []) Try.func209 rfl rfl Try.ntmps209 rfl rfl ?_
  obtain ⟨hi, hhi⟩ : ∃ hi, hi = b - a := ⟨_, rfl⟩
  obtain ⟨h1, hh1⟩ : ∃ h1, h1 = hi - 1 := ⟨_, rfl⟩
  obtain ⟨k0, hk0⟩ : ∃ k0, k0 = h1 / 2 := ⟨_, rfl⟩
  have w0 : IntKind.i64.wrap ((b : Int) - a) = (hi : Int) := by rw [hhi, i64w (by omega) (by omega)]; omega
  have w1 : IntKind.i64.wrap ((hi : Int) - 1) = (h1 : Int) := by rw [hh1, i64w (by omega) (by omega)]; omega
  have w2 : IntKind.i64.wrap ((h1 : Int) / 2) = (k0 : Int) := by rw [hk0, i64w (by omega) (by omega)]; omega
  have e0 : heapSort lt d a b = heapPop lt a hi (heapBuild lt hi a (k0 + 1) d) := by rw [hk0, hh1, hhi]; rfl
  rw [e0] at h
  simp (maxSteps := 1000000) [go_sem, w0, w1, w2]
  refine AWp.loopVc (St := Nat × Array Bk) (fun s => [(0, lv 3 id 0 n), (3, .func (.func g) fs.toArray cs.toArray), (8, .int .i64 a), (9, .int .i64 0), (10, .int .i64 hi), (11, .int .i64 ((s.1 : Int) - 1))])
    (fun s H' => s.1 ≤ k0 + 1 ∧ s.2.size = n ∧ QA Q s.2 ∧ Same (fun k => k = id) H H' ∧ Arr Bk.cells H' id s.2 ∧ heapBuild lt hi a s.1 s.2 = heapBuild lt hi a (k0 + 1) d) (fun s => s.1) (k0 + 1, d) ?_ ?_ ?_
  · have e : ((k0 + 1 : Nat) : Int) - 1 = k0 := by omega
    simp [upF, Fr.get, Up.refl, e]
  · exact ⟨Nat.le_refl _, hn, hQ, Same.refl _ _, hA, rfl⟩
  · rintro K ⟨k, d1⟩ H1 ⟨hk, hsz, hQ1, hS1, hA1, hO⟩ hK
    simp only at hk hsz hQ1 hS1 hA1 hO
    cases k with
    | succ r =>
      have hwr : IntKind.i64.wrap ((r : Int) - 1) = (r : Int) - 1 := i64w (by omega) (by omega)
      simp (maxSteps := 1000000) [go_sem]
      refine siftB_ok hA1 hsz hl (by omega) (by omega) hQ1 (hC.keep hS1) _ ?_
      intro H2 hS2 hA2
      have hsz2 : (siftDown lt hi a r d1).size = n := by rw [sift_size]; exact hsz
      simp (maxSteps := 1000000) [go_sem, hwr]
      exact hK (r, siftDown lt hi a r d1) _ _ (by simp only; omega) (by simp [upF, Fr.get, Up.refl]) ⟨by simp only; omega, hsz2, sift_QA (by omega) hQ1, hS1.trans hS2, hA2, hO⟩
    | zero =>
      simp (maxSteps := 1000000) [go_sem, w1]
      have hO' : d1 = heapBuild lt hi a (k0 + 1) d := hO
      rw [← hO'] at h
      refine AWp.loopVc (St := Nat × Array Bk) (fun s => [(0, lv 3 id 0 n), (3, .func (.func g) fs.toArray cs.toArray), (8, .int .i64 a), (9, .int .i64 0), (12, .int .i64 ((s.1 : Int) - 1))])
        (fun s H' => s.1 ≤ hi ∧ s.2.size = n ∧ QA Q s.2 ∧ Same (fun k => k = id) H H' ∧ Arr Bk.cells H' id s.2 ∧ heapPop lt a s.1 s.2 = heapPop lt a hi d1) (fun s => s.1) (hi, d1) ?_ ?_ ?_
      · have e : (hi : Int) - 1 = h1 := by omega
        simp [upF, Fr.get, Up.refl, e]
      · exact ⟨Nat.le_refl _, hsz, hQ1, hS1, hA1, rfl⟩
      · rintro K2 ⟨k, d2⟩ H2 ⟨hk2, hsz2, hQ2, hS2, hA2, hP⟩ hK2
        simp only at hk2 hsz2 hQ2 hS2 hA2 hP
        cases k with
        | succ r =>
          have hwr : IntKind.i64.wrap ((r : Int) - 1) = (r : Int) - 1 := i64w (by omega) (by omega)
          obtain ⟨ar, har⟩ : ∃ ar, ar = a + r := ⟨_, rfl⟩
          have w4 : IntKind.i64.wrap ((a : Int) + r) = (ar : Int) := by rw [har]; rw [i64w (by omega) (by omega)]; omega
          have hi1 : a < d2.size := by omega
          have hi2 : ar < d2.size := by omega
          have n1 : a < n := by omega
          have n2 : ar < n := by omega
          have ca := hA2.load Bk.cells_len hi1
          have cb := hA2.load Bk.cells_len hi2
          obtain ⟨H5, H6, s1, s0, hA6, hS6, hl6⟩ := hA2.swap Bk.cells_len Bk.cells_one hi1 hi2
          obtain ⟨x, hx⟩ : ∃ x, x = d2[a]! := ⟨_, rfl⟩
          obtain ⟨y, hy⟩ : ∃ y, y = d2[ar]! := ⟨_, rfl⟩
          rw [← hx] at ca s0
          rw [← hy] at cb s1
          simp only [Bk.cells, Nat.mul_one, Row.val] at ca cb s0 s1
          rw [heapPop, ← har] at hP
          have hsz3 : (swp d2 a ar).size = n := by rw [size_swp]; exact hsz2
          have hQ3 := hQ2.swp hi1 hi2
          simp (maxSteps := 1000000) [go_sem]
          refine AWp.draw mixed [(0, false), (1, false), (2, false), (3, false), (4, false), (5, false), (6, false), (7, false), (8, false), (9, false), (10, false), (11, false), (12, false), (13, false), (14, false), (15, false), (16, false), (17, false), (18, false), (19, false)] (by kernel_rfl) ?_
          simp (maxSteps := 1000000) [go_sem, w4, ca, cb, n1, n2, s1, s0]
          refine siftB_ok (lo := 0) hA6 hsz3 hl (by omega) (by omega) hQ3 (hC.keep (hS2.trans hS6)) _ ?_
          intro H7 hS7 hA7
          have hsz4 : (siftDown lt r a 0 (swp d2 a ar)).size = n := by rw [sift_size]; exact hsz3
          simp (maxSteps := 1000000) [go_sem, hwr]
          exact hK2 (r, siftDown lt r a 0 (swp d2 a ar)) _ _ (by simp only; omega) (by simp [upF, Fr.get, Up.refl]) ⟨by simp only; omega, hsz4, sift_QA (by omega) hQ3, (hS2.trans hS6).trans hS7, hA7, hP⟩
        | zero =>
          simp (maxSteps := 1000000) [go_sem]
          refine h H2 hS2 ?_
          rw [← hP]; exact hA2

end Go.Proofs.Ytdfeoccjllljiaa
end

section
/- Sorting by a function: turning around, the choice of a pivot. -/
set_option linter.all false
set_option maxRecDepth 20000
set_option maxHeartbeats 4000000
namespace Go.Proofs.Ytdfeoccjllljiaa
open Go.Ab Go.Sort

theorem reverseB_ok {H : Heap} {id a b n : Nat} {d : Array Bk} {g : FuncId} {fs cs : List Value} (hA : Arr Bk.cells H id d) (hn : d.size = n) (hl : n ≤ 1048576) (hab : a < b) (hb : b ≤ n)
    (Post : Value → Heap → Prop) (h : ∀ H', Same (fun k => k = id) H H' → Arr Bk.cells H' id (reverseRange d a b) → Post (.tuple #[]) H') :
    ACalls Try.prog 212 [lv 3 id 0 n, .int .i64 a, .int .i64 b, .func (.func g) fs.toArray cs.toArray] H Post := by
  refine acalls_vc (rs := []) Try.func212 rfl rfl Try.ntmps212 rfl rfl ?_
  obtain ⟨b1, hb1⟩ : ∃ b1, b1 = b - 1 := ⟨_, rfl⟩
  have w0 : IntKind.i64.wrap ((b : Int) - 1) = (b1 : Int) := by rw [hb1, i64w (by omega) (by omega)]; omega
  have e0 : reverseRange d a b = reverseLoop a b1 d := by rw [hb1]; rfl
  rw [e0] at h
  simp (maxSteps := 1000000) [go_sem, w0]
  refine AWp.loopVc (St := Nat × Nat × Array Bk) (fun s => [(0, lv 3 id 0 n), (8, .int .i64 s.1), (9, .int .i64 s.2.1)])
    (fun s H' => s.2.1 < n ∧ s.1 ≤ n ∧ s.2.2.size = n ∧ Same (fun k => k = id) H H' ∧ Arr Bk.cells H' id s.2.2 ∧ reverseLoop s.1 s.2.1 s.2.2 = reverseLoop a b1 d) (fun s => s.2.1 - s.1) (a, b1, d) ?_ ?_ ?_
  · simp [upF, Fr.get, Up.refl]
  · exact ⟨by simp only; omega, by simp only; omega, hn, Same.refl _ _, hA, rfl⟩
  · rintro K ⟨i, j, d1⟩ H1 ⟨hj, hi, hsz, hS1, hA1, hO⟩ hK
    simp only at hj hi hsz hS1 hA1 hO
    by_cases hij : i < j
    · obtain ⟨r, rfl⟩ : ∃ r, j = r + 1 := ⟨j - 1, by omega⟩
      rw [reverse_go hij] at hO
      have hi1 : i < d1.size := by omega
      have hi2 : r + 1 < d1.size := by omega
      have n1 : i < n := by omega
      have n2 : r + 1 < n := by omega
      have m2 : (r : Int) + 1 < n := by omega
      have z2 : (0 : Int) ≤ (r : Int) + 1 := by omega
      have hij' : (i : Int) < (r : Int) + 1 := by omega
      have hwr : IntKind.i64.wrap (r : Int) = (r : Int) := i64w (by omega) (by omega)
      have hw_i : IntKind.i64.wrap ((i : Int) + 1) = (i : Int) + 1 := i64w (by omega) (by omega)
      have ca := hA1.load Bk.cells_len hi1
      have cb := hA1.load Bk.cells_len hi2
      obtain ⟨H5, H6, s1, s0, hA6, hS6, hl6⟩ := hA1.swap Bk.cells_len Bk.cells_one hi1 hi2
      obtain ⟨x, hx⟩ : ∃ x, x = d1[i]! := ⟨_, rfl⟩
      obtain ⟨y, hy⟩ : ∃ y, y = d1[r + 1]! := ⟨_, rfl⟩
      rw [← hx] at ca s0
      rw [← hy] at cb s1
      simp only [Bk.cells, Nat.mul_one, Row.val] at ca cb s0 s1
      simp (maxSteps := 1000000) [go_sem, hij, hij']
      refine AWp.draw mixed [(0, false), (1, false), (2, false), (3, false), (4, false), (5, false), (6, false), (7, false), (8, false), (9, false), (10, false), (11, false), (12, false), (13, false), (14, false), (15, false)] (by kernel_rfl) ?_
      simp (maxSteps := 1000000) [go_sem, ca, cb, n1, n2, m2, z2, s1, s0, hw_i, hwr]
      exact hK (i + 1, r, swp d1 i (r + 1)) _ _ (by simp only; omega) (by simp [upF, Fr.get, Up.refl]) ⟨by simp only; omega, by simp only; omega, by rw [size_swp]; exact hsz, hS1.trans hS6, hA6, hO⟩
    · rw [reverse_stop hij] at hO
      have hij' : ¬ ((i : Int) < j) := by omega
      simp (maxSteps := 1000000) [go_sem, hij, hij']
      exact h H1 hS1 (hO ▸ hA1)

theorem order2B_ok {HB H : Heap} {id sw a b n : Nat} {z : Int} {d : Array Bk} {lt : Bk → Bk → Bool} {g : FuncId} {fs cs : List Value} {Q : Bk → Prop} (hA : Arr Bk.cells H id d) (hn : d.size = n) (hl : n ≤ 1048576) (ha : a < n) (hb : b < n) (hQ : QA Q d)
    (hC : Cmp Try.prog Bk.val lt g fs cs Q id HB) (hB : Same (fun k => k = id) HB H) (hz : H[sw]? = some ⟨[.int .i64 z], true, true⟩) (hsw : HB.length ≤ sw) (hid : id ≠ sw) (Post : Value → Heap → Prop)
    (h : ∀ H' (x y : Nat) (z' : Int), Same (fun k => k = sw) H H' → H'[sw]? = some ⟨[.int .i64 z'], true, true⟩ → (x = a ∧ y = b ∨ x = b ∧ y = a) → Post (.tuple #[.int .i64 x, .int .i64 y]) H') :
    ACalls Try.prog 231 [lv 3 id 0 n, .int .i64 a, .int .i64 b, .pointer (some ⟨sw, 0, none⟩), .func (.func g) fs.toArray cs.toArray] H Post := by
  refine acalls_vc (rs := [.tmp 10, .tmp 11]) Try.func231 rfl rfl Try.ntmps231 rfl rfl ?_
  have hi1 : a < d.size := by omega
  have hi2 : b < d.size := by omega
  have ca := hA.load Bk.cells_len hi1
  have cb := hA.load Bk.cells_len hi2
  have qa := hQ _ hi1
  have qb := hQ _ hi2
  obtain ⟨x, hx⟩ : ∃ x, x = d[a]! := ⟨_, rfl⟩
  obtain ⟨y, hy⟩ : ∃ y, y = d[b]! := ⟨_, rfl⟩
  rw [← hx] at ca qa
  rw [← hy] at cb qb
  simp only [Bk.cells, Nat.mul_one, Row.val] at ca cb
  simp (maxSteps := 1000000) [go_sem]
  refine AWp.draw mixed [(0, false), (1, false), (2, false), (3, false), (4, false), (5, false), (6, false), (7, false), (8, false), (9, false), (10, false)] (by kernel_rfl) ?_
  simp (maxSteps := 1000000) [go_sem, ca, cb, ha, hb]
  refine hC H y x _ hB qb qa ?_
  intro H3 c hp3 hc
  have hz3 : H3[sw]? = some ⟨[.int .i64 z], true, true⟩ := Same.get (S := fun _ => False) (Same.of_prefix hp3) hz (fun h => h)
  cases hyx : lt y x with
  | true =>
    rw [hyx] at hc
    have hc0 : c < 0 := by simpa using hc
    have lz : cellsAt H3 sw 0 1 = some [.int .i64 z] := by rw [cellsAt_of hz3 rfl (by simp)]; rfl
    obtain ⟨z1, hz1⟩ : ∃ z1, IntKind.i64.wrap (z + 1) = z1 := ⟨_, rfl⟩
    have sz : storeAt H3 sw 0 [.int .i64 z1] = some (H3.set sw ⟨[.int .i64 z1], true, true⟩) := by
      rw [storeAt_of hz3 rfl rfl (by simp) (by simp [Value.oneCell'])]; rfl
    have hlt := (List.getElem?_eq_some_iff.1 hz3).1
    have fin := h (H3.set sw ⟨[.int .i64 z1], true, true⟩) b a _ ((Same.of_prefix hp3).trans same_set) (List.getElem?_set_self hlt) (.inr ⟨rfl, rfl⟩)
    generalize H3.set sw ⟨[.int .i64 z1], true, true⟩ = H4 at sz fin
    simp (maxSteps := 1000000) [go_sem, hc, hc0, lz, hz1, sz]
    exact fin
  | false =>
    rw [hyx] at hc
    have hc0 : ¬ c < 0 := by simpa using hc
    have fin := h H3 a b z (Same.of_prefix hp3) hz3 (.inl ⟨rfl, rfl⟩)
    simp (maxSteps := 1000000) [go_sem, hc, hc0]
    exact fin

theorem medianB_ok {HB H : Heap} {id sw a b c n : Nat} {z : Int} {d : Array Bk} {lt : Bk → Bk → Bool} {g : FuncId} {fs cs : List Value} {Q : Bk → Prop} (hA : Arr Bk.cells H id d) (hn : d.size = n) (hl : n ≤ 1048576) (ha : a < n) (hb : b < n) (hc : c < n) (hQ : QA Q d)
    (hC : Cmp Try.prog Bk.val lt g fs cs Q id HB) (hB : Same (fun k => k = id) HB H) (hz : H[sw]? = some ⟨[.int .i64 z], true, true⟩) (hsw : HB.length ≤ sw) (hid : id ≠ sw) (Post : Value → Heap → Prop)
    (h : ∀ H' (x : Nat) (z' : Int), Same (fun k => k = sw) H H' → H'[sw]? = some ⟨[.int .i64 z'], true, true⟩ → (x = a ∨ x = b ∨ x = c) → Post (.int .i64 x) H') :
    ACalls Try.prog 227 [lv 3 id 0 n, .int .i64 a, .int .i64 b, .int .i64 c, .pointer (some ⟨sw, 0, none⟩), .func (.func g) fs.toArray cs.toArray] H Post := by
  have stepB : ∀ {H1 : Heap}, Same (fun k => k = sw) H H1 → Same (fun k => k = id) HB H1 := fun h1 => hB.via h1 (by intro j hj e; omega)
  have stepA : ∀ {H1 : Heap}, Same (fun k => k = sw) H H1 → Arr Bk.cells H1 id d := fun h1 => h1.get hA hid
  refine acalls_vc (rs := [.tmp 12]) Try.func227 rfl rfl Try.ntmps227 rfl rfl ?_
  simp (maxSteps := 1000000) [go_sem]
  refine order2B_ok hA hn hl ha hb hQ hC hB hz hsw hid _ ?_
  intro H1 a1 b1 z1 hs1 hz1 h1
  simp (maxSteps := 1000000) [go_sem]
  refine order2B_ok (stepA hs1) hn hl (by omega) hc hQ hC (stepB hs1) hz1 hsw hid _ ?_
  intro H2 b2 c2 z2 hs2 hz2 h2
  have hs2 := hs1.trans hs2
  simp (maxSteps := 1000000) [go_sem]
  refine order2B_ok (stepA hs2) hn hl (by omega) (by omega) hQ hC (stepB hs2) hz2 hsw hid _ ?_
  intro H3 a3 b3 z3 hs3 hz3 h3
  simp (maxSteps := 1000000) [go_sem]
  exact h H3 b3 z3 (hs2.trans hs3) hz3 (by omega)

theorem medianAdjB_ok {HB H : Heap} {id sw a n : Nat} {z : Int} {d : Array Bk} {lt : Bk → Bk → Bool} {g : FuncId} {fs cs : List Value} {Q : Bk → Prop} (hA : Arr Bk.cells H id d) (hn : d.size = n) (hl : n ≤ 1048576) (ha0 : 0 < a) (ha : a + 1 < n) (hQ : QA Q d)
    (hC : Cmp Try.prog Bk.val lt g fs cs Q id HB) (hB : Same (fun k => k = id) HB H) (hz : H[sw]? = some ⟨[.int .i64 z], true, true⟩) (hsw : HB.length ≤ sw) (hid : id ≠ sw) (Post : Value → Heap → Prop)
    (h : ∀ H' (x : Nat) (z' : Int), Same (fun k => k = sw) H H' → H'[sw]? = some ⟨[.int .i64 z'], true, true⟩ → (a ≤ x + 1 ∧ x ≤ a + 1) → Post (.int .i64 x) H') :
    ACalls Try.prog 226 [lv 3 id 0 n, .int .i64 a, .pointer (some ⟨sw, 0, none⟩), .func (.func g) fs.toArray cs.toArray] H Post := by
  obtain ⟨p, hp⟩ : ∃ p, p = a - 1 := ⟨_, rfl⟩
  obtain ⟨q, hq⟩ : ∃ q, q = a + 1 := ⟨_, rfl⟩
  have w0 : IntKind.i64.wrap ((a : Int) - 1) = (p : Int) := by rw [hp, i64w (by omega) (by omega)]; omega
  have w1 : IntKind.i64.wrap ((a : Int) + 1) = (q : Int) := by rw [hq, i64w (by omega) (by omega)]; omega
  refine acalls_vc (rs := [.tmp 8]) Try.func226 rfl rfl Try.ntmps226 rfl rfl ?_
  simp (maxSteps := 1000000) [go_sem, w0, w1]
  refine medianB_ok hA hn hl (by omega) (by omega) (by omega) hQ hC hB hz hsw hid _ ?_
  intro H1 x z1 hs1 hz1 h1
  simp (maxSteps := 1000000) [go_sem]
  exact h H1 x z1 hs1 hz1 (by omega)

theorem pivotB_ok {H : Heap} {id a b n : Nat} {d : Array Bk} {lt : Bk → Bk → Bool} {g : FuncId} {fs cs : List Value} {Q : Bk → Prop} (hA : Arr Bk.cells H id d) (hn : d.size = n) (hl : n ≤ 1048576) (hab : a < b) (hb : b ≤ n) (hQ : QA Q d)
    (hC : Cmp Try.prog Bk.val lt g fs cs Q id H) (Post : Value → Heap → Prop)
    (h : ∀ H' (x : Nat) (t : Int), H <+: H' → (a ≤ x ∧ x < b) → Post (.tuple #[.int .i64 x, .int .i64 t]) H') :
    ACalls Try.prog 211 [lv 3 id 0 n, .int .i64 a, .int .i64 b, .func (.func g) fs.toArray cs.toArray] H Post := by
  obtain ⟨l, hll⟩ : ∃ l, l = b - a := ⟨_, rfl⟩
  obtain ⟨q, hq⟩ : ∃ q, q = l / 4 := ⟨_, rfl⟩
  obtain ⟨i, hi⟩ : ∃ i, i = a + q := ⟨_, rfl⟩
  obtain ⟨j, hj⟩ : ∃ j, j = a + q * 2 := ⟨_, rfl⟩
  obtain ⟨k, hk⟩ : ∃ k, k = a + q * 3 := ⟨_, rfl⟩
  have w0 : IntKind.i64.wrap ((b : Int) - a) = (l : Int) := by rw [hll, i64w (by omega) (by omega)]; omega
  have w1 : IntKind.i64.wrap ((l : Int) / 4) = (q : Int) := by rw [hq, i64w (by omega) (by omega)]; omega
  have w1' : IntKind.i64.wrap (q : Int) = (q : Int) := i64w (by omega) (by omega)
  have w2 : IntKind.i64.wrap ((q : Int) * 2) = (q : Int) * 2 := i64w (by omega) (by omega)
  have w3 : IntKind.i64.wrap ((q : Int) * 3) = (q : Int) * 3 := i64w (by omega) (by omega)
  have w4 : IntKind.i64.wrap ((a : Int) + q) = (i : Int) := by rw [hi, i64w (by omega) (by omega)]; omega
  have w5 : IntKind.i64.wrap ((a : Int) + (q : Int) * 2) = (j : Int) := by rw [hj, i64w (by omega) (by omega)]; omega
  have w6 : IntKind.i64.wrap ((a : Int) + (q : Int) * 3) = (k : Int) := by rw [hk, i64w (by omega) (by omega)]; omega
  have hidl := hA.lt
  have hp0 : H <+: H ++ [⟨[.int .i64 0], true, true⟩] := List.prefix_append _ _
  have hz0 : (H ++ [(⟨[.int .i64 0], true, true⟩ : Blk)])[H.length]? = some ⟨[.int .i64 0], true, true⟩ := by simp
  have fin0 : ∀ (H' : Heap) (x : Nat) (t : Int), Same (fun k => k = H.length) (H ++ [⟨[.int .i64 0], true, true⟩]) H' → (a ≤ x ∧ x < b) → Post (.tuple #[.int .i64 x, .int .i64 t]) H' := by
    intro H' x t hs hx
    refine h H' x t ?_ hx
    exact ((Same.of_prefix (S := fun k => k = H.length) hp0).trans hs).prefix (by intro j hj e; omega)
  have lz : ∀ {H' : Heap} {z : Int}, H'[H.length]? = some ⟨[.int .i64 z], true, true⟩ → cellsAt H' H.length 0 1 = some [.int .i64 z] := by
    intro H' z hz; rw [cellsAt_of hz rfl (by simp)]; rfl
  refine acalls_vc (rs := [.tmp 8, .tmp 9]) Try.func211 rfl rfl Try.ntmps211 rfl rfl ?_
  by_cases h8 : 8 ≤ l
  · have h8' : (8 : Int) ≤ l := by omega
    by_cases h50 : 50 ≤ l
    · have h50' : (50 : Int) ≤ l := by omega
      simp (maxSteps := 1000000) [go_sem, w0, w1, w1', w2, w3, w4, w5, w6, h8, h8', h50, h50']
      have hA0 := hA.pre hp0
      have hB0 : Same (fun k => k = id) H (H ++ [⟨[.int .i64 0], true, true⟩]) := Same.of_prefix hp0
      generalize H ++ [(⟨[.int .i64 0], true, true⟩ : Blk)] = H0 at hp0 hz0 fin0 hA0 hB0 ⊢
      have stepB : ∀ {H1 : Heap}, Same (fun k => k = H.length) H0 H1 → Same (fun k => k = id) H H1 := fun h1 => hB0.via h1 (by intro j hj e; omega)
      have stepA : ∀ {H1 : Heap}, Same (fun k => k = H.length) H0 H1 → Arr Bk.cells H1 id d := fun h1 => h1.get hA0 (by omega)
      refine medianAdjB_ok hA0 hn hl (by omega) (by omega) hQ hC hB0 hz0 (Nat.le_refl _) (by omega) _ ?_
      intro H1 i1 z1 hs1 hz1 h1
      simp (maxSteps := 1000000) [go_sem]
      refine medianAdjB_ok (stepA hs1) hn hl (by omega) (by omega) hQ hC (stepB hs1) hz1 (Nat.le_refl _) (by omega) _ ?_
      intro H2 j1 z2 hs2 hz2 h2
      have hs2 := hs1.trans hs2
      simp (maxSteps := 1000000) [go_sem]
      refine medianAdjB_ok (stepA hs2) hn hl (by omega) (by omega) hQ hC (stepB hs2) hz2 (Nat.le_refl _) (by omega) _ ?_
      intro H3 k1 z3 hs3 hz3 h3
      have hs3 := hs2.trans hs3
      simp (maxSteps := 1000000) [go_sem]
      refine medianB_ok (stepA hs3) hn hl (by omega) (by omega) (by omega) hQ hC (stepB hs3) hz3 (Nat.le_refl _) (by omega) _ ?_
      intro H4 x z4 hs4 hz4 h4
      have hs4 := hs3.trans hs4
      have c4 := lz hz4
      have hx : a ≤ x ∧ x < b := by omega
      by_cases e0 : z4 = 0
      · have fin := fin0 H4 x 1 hs4 hx
        subst e0
        simp (maxSteps := 1000000) [go_sem, c4]
        exact fin
      · have e0' : (z4 == 0) = false := by simpa using e0
        by_cases e1 : z4 = 12
        · have fin := fin0 H4 x 2 hs4 hx
          subst e1
          simp (maxSteps := 1000000) [go_sem, c4]
          exact fin
        · have fin := fin0 H4 x 0 hs4 hx
          have e1' : (z4 == 12) = false := by simpa using e1
          simp (maxSteps := 1000000) [go_sem, c4, e0, e0', e1, e1']
          exact fin
    · have h50' : ¬ ((50 : Int) ≤ l) := by omega
      simp (maxSteps := 1000000) [go_sem, w0, w1, w1', w2, w3, w4, w5, w6, h8, h8', h50, h50']
      have hA0 := hA.pre hp0
      have hB0 : Same (fun k => k = id) H (H ++ [⟨[.int .i64 0], true, true⟩]) := Same.of_prefix hp0
      generalize H ++ [(⟨[.int .i64 0], true, true⟩ : Blk)] = H0 at hp0 hz0 fin0 hA0 hB0 ⊢
      refine medianB_ok hA0 hn hl (by omega) (by omega) (by omega) hQ hC hB0 hz0 (Nat.le_refl _) (by omega) _ ?_
      intro H4 x z4 hs4 hz4 h4
      have c4 := lz hz4
      have hx : a ≤ x ∧ x < b := by omega
      by_cases e0 : z4 = 0
      · have fin := fin0 H4 x 1 hs4 hx
        subst e0
        simp (maxSteps := 1000000) [go_sem, c4]
        exact fin
      · have e0' : (z4 == 0) = false := by simpa using e0
        by_cases e1 : z4 = 12
        · have fin := fin0 H4 x 2 hs4 hx
          subst e1
          simp (maxSteps := 1000000) [go_sem, c4]
          exact fin
        · have fin := fin0 H4 x 0 hs4 hx
          have e1' : (z4 == 12) = false := by simpa using e1
          simp (maxSteps := 1000000) [go_sem, c4, e0, e0', e1, e1']
          exact fin
  · have h8' : ¬ ((8 : Int) ≤ l) := by omega
    have fin := fin0 _ j 1 (Same.refl _ _) (by omega)
    simp (maxSteps := 1000000) [go_sem, w0, w1, w1', w2, w3, w4, w5, w6, h8, h8']
    exact fin

end Go.Proofs.Ytdfeoccjllljiaa
end

section
/- Sorting by a function: the partitions. -/
set_option linter.all false
set_option maxRecDepth 20000
set_option maxHeartbeats 8000000
namespace Go.Proofs.Ytdfeoccjllljiaa
open Go.Ab Go.Sort

theorem partEqB_ok {H : Heap} {id a b pivot n : Nat} {d : Array Bk} {lt : Bk → Bk → Bool} {g : FuncId} {fs cs : List Value} {Q : Bk → Prop} (hA : Arr Bk.cells H id d) (hn : d.size = n) (hl : n ≤ 1048576) (hap : a ≤ pivot) (hpb : pivot < b) (hb : b ≤ n) (hQ : QA Q d)
    (hC : Cmp Try.prog Bk.val lt g fs cs Q id H) (Post : Value → Heap → Prop) (h : ∀ H', Same (fun k => k = id) H H' → Arr Bk.cells H' id (partitionEqual lt d a b pivot).2 → Post (.int .i64 ((partitionEqual lt d a b pivot).1 : Nat)) H') :
    ACalls Try.prog 214 [lv 3 id 0 n, .int .i64 a, .int .i64 b, .int .i64 pivot, .func (.func g) fs.toArray cs.toArray] H Post := by
  refine acalls_vc (rs := [.tmp 10]) Try.func214 rfl rfl Try.ntmps214 rfl rfl ?_
  obtain ⟨b1, hb1⟩ : ∃ b1, b1 = b - 1 := ⟨_, rfl⟩
  obtain ⟨a1, ha1⟩ : ∃ a1, a1 = a + 1 := ⟨_, rfl⟩
  have w0 : IntKind.i64.wrap ((b : Int) - 1) = (b1 : Int) := by rw [hb1, i64w (by omega) (by omega)]; omega
  have w1 : IntKind.i64.wrap ((a : Int) + 1) = (a1 : Int) := by rw [ha1, i64w (by omega) (by omega)]; omega
  have hi1 : a < d.size := by omega
  have hi2 : pivot < d.size := by omega
  have n1 : a < n := by omega
  have n2 : pivot < n := by omega
  have ca := hA.load Bk.cells_len hi1
  have cb := hA.load Bk.cells_len hi2
  obtain ⟨H5, H6, s1, s0, hA6, hS6, hl6⟩ := hA.swap Bk.cells_len Bk.cells_one hi1 hi2
  obtain ⟨x, hx⟩ : ∃ x, x = d[a]! := ⟨_, rfl⟩
  obtain ⟨y, hy⟩ : ∃ y, y = d[pivot]! := ⟨_, rfl⟩
  rw [← hx] at ca s0
  rw [← hy] at cb s1
  simp only [Bk.cells, Nat.mul_one, Row.val] at ca cb s0 s1
  have e0 : partitionEqual lt d a b pivot = partEqLoop lt a a1 b1 (swp d a pivot) := by rw [hb1, ha1]; rfl
  rw [e0] at h
  have hQ6 := hQ.swp hi1 hi2
  have hsz6 : (swp d a pivot).size = n := by rw [size_swp]; exact hn
  generalize swp d a pivot = d0 at *
  simp (maxSteps := 1000000) [go_sem]
  refine AWp.draw mixed [(0, false), (1, false), (2, false), (3, false), (4, false), (5, false), (6, false), (7, false), (8, false), (9, false), (10, false), (11, false), (12, false), (13, false), (14, false), (15, false)] (by kernel_rfl) ?_
  simp (maxSteps := 1000000) [go_sem, ca, cb, n1, n2, s1, s0, w0, w1]
  refine AWp.loopVc (St := Nat × Nat × Array Bk) (fun s => [(0, lv 3 id 0 n), (1, .int .i64 a), (4, .func (.func g) fs.toArray cs.toArray), (11, .int .i64 s.1), (12, .int .i64 s.2.1)])
    (fun s H' => a < s.1 ∧ s.1 ≤ s.2.1 + 1 ∧ s.2.1 < n ∧ s.2.2.size = n ∧ QA Q s.2.2 ∧ Same (fun k => k = id) H H' ∧ Arr Bk.cells H' id s.2.2 ∧ partEqLoop lt a s.1 s.2.1 s.2.2 = partEqLoop lt a a1 b1 d0) (fun s => s.2.1 + 1 - s.1) (a1, b1, d0) ?_ ?_ ?_
  · simp [upF, Fr.get, Up.refl]
  · exact ⟨by simp only; omega, by simp only; omega, by simp only; omega, hsz6, hQ6, hS6, hA6, rfl⟩
  · rintro K0 ⟨i, j, d1⟩ H1 ⟨hai, hij, hjn, hsz, hQ1, hS1, hA1, hO⟩ hK0
    simp only at hai hij hjn hsz hQ1 hS1 hA1 hO
    obtain ⟨pv, hpv⟩ : ∃ pv, pv = d1[a]! := ⟨_, rfl⟩
    rw [partEqLoop_eq, ← hpv] at hO
    simp (maxSteps := 1000000) [go_sem]
    refine AWp.loopCut (St := Nat) (St' := Unit) 2 (fun s => [(0, lv 3 id 0 n), (1, .int .i64 a), (4, .func (.func g) fs.toArray cs.toArray), (11, .int .i64 s), (12, .int .i64 j)])
      (fun s H2 => a < s ∧ s ≤ j + 1 ∧ Same (fun k => k = id) H H2 ∧ Arr Bk.cells H2 id d1 ∧ scanUp (fun x => !lt pv x) d1 j s = scanUp (fun x => !lt pv x) d1 j i) (fun s => j + 1 - s) i
      (fun _ => [(0, lv 3 id 0 n), (1, .int .i64 a), (4, .func (.func g) fs.toArray cs.toArray), (11, .int .i64 ((scanUp (fun x => !lt pv x) d1 j i : Nat) : Int)), (12, .int .i64 j)])
      (fun _ H2 => Same (fun k => k = id) H H2 ∧ Arr Bk.cells H2 id d1) ?_ ?_ ?_ ?_
    · simp [upF, Fr.get, Up.refl]
    · exact ⟨by omega, by omega, hS1, hA1, rfl⟩
    · rintro K KE s H2 ⟨has, hsj, hS2, hA2, hP⟩ hK hKE
      by_cases hsj2 : s ≤ j
      · have hi1 : s < (d1).size := by omega
        have hi0 : a < (d1).size := by omega
        have n1 : s < n := by omega
        have n0 : a < n := by omega
        have hsj3 : (s : Int) ≤ ((j : Nat) : Int) := by omega
        have hw_s : IntKind.i64.wrap ((s : Int) + 1) = (s : Int) + 1 := i64w (by omega) (by omega)
        have c1 := hA2.load Bk.cells_len hi1
        have c0 := hA2.load Bk.cells_len hi0
        have q1 := hQ1 _ hi1
        have q0 := hQ1 _ hi0
        obtain ⟨x, hx⟩ : ∃ x, x = (d1)[s]! := ⟨_, rfl⟩
        rw [← hx] at c1 q1
        rw [← hpv] at c0 q0
        simp only [Bk.cells, Nat.mul_one, Row.val] at c1 c0
        refine AWp.draw mixed [(0, false), (1, false), (2, false), (3, false), (4, false), (5, false), (6, false), (7, false), (8, false), (9, false), (10, false), (11, false), (12, false), (13, false), (14, false), (15, false), (16, false)] (by kernel_rfl) ?_
        simp (maxSteps := 1000000) [go_sem, hsj2, hsj3, c1, c0, n1, n0]
        refine hC H2 pv x _ hS2 q0 q1 ?_
        intro H3 c hp3 hc
        have hS3 := hS2.via (Same.of_prefix (S := fun _ => False) hp3) (fun _ _ h => h.elim)
        have hA3 := hA2.pre hp3
        cases hl' : lt pv x with
        | false =>
          rw [hl'] at hc
          have hc0 := hc
          simp only [decide_eq_true_eq, decide_eq_false_iff_not] at hc0
          simp (maxSteps := 1000000) [go_sem, hc, hc0, hw_s]
          exact hK (s + 1) _ _ (by omega) (by simp [upF, Fr.get, Up.refl]) ⟨by omega, by omega, hS3, hA3, by rw [← hP]; exact (scanUp_go hsj2 (by show (!lt pv d1[s]!) = true; rw [← hx]; simp [hl'])).symm⟩
        | true =>
          rw [hl'] at hc
          have hc0 := hc
          simp only [decide_eq_true_eq, decide_eq_false_iff_not] at hc0
          rw [scanUp_stop (.inr (by show (!lt pv d1[s]!) = false; rw [← hx]; simp [hl']))] at hP
          simp (maxSteps := 1000000) [go_sem, hc, hc0]
          exact hKE () _ _ (by simp [upF, Fr.get, Up.refl, hP]) ⟨hS3, hA3⟩
      · rw [scanUp_stop (.inl (by omega))] at hP
        have hsj3 : ¬ ((s : Int) ≤ ((j : Nat) : Int)) := by omega
        refine AWp.draw mixed [(0, false), (1, false), (2, false), (3, false), (4, false), (5, false), (6, false), (7, false), (8, false), (9, false), (10, false), (11, false), (12, false), (13, false), (14, false), (15, false), (16, false)] (by kernel_rfl) ?_
        simp (maxSteps := 1000000) [go_sem, undef, hsj2, hsj3]
        exact hKE () _ _ (by simp [upF, Fr.get, Up.refl, hP]) ⟨hS2, hA2⟩
    rintro _ H3 ⟨hS3, hA3⟩
    have hge1 := scanUp_ge (fun x => !lt pv x) d1 j i
    have hle1 := (scanUp_spec (fun x => !lt pv x) d1 j _ i rfl).2.1 (by omega)
    have hle1s := (scanUp_spec (fun x => !lt pv x) d1 j _ i rfl).2.2.2
    obtain ⟨i2, hi2'⟩ : ∃ I, scanUp (fun x => !lt pv x) d1 j i = I := ⟨_, rfl⟩
    rw [hi2'] at hge1 hle1 hle1s ⊢
    simp (maxSteps := 1000000) [go_sem]
    refine AWp.loopCut (St := Nat) (St' := Unit) 4 (fun s => [(0, lv 3 id 0 n), (1, .int .i64 a), (4, .func (.func g) fs.toArray cs.toArray), (11, .int .i64 i2), (12, .int .i64 s)])
      (fun s H2 => s < n ∧ i2 ≤ s + 1 ∧ Same (fun k => k = id) H H2 ∧ Arr Bk.cells H2 id d1 ∧ scanDown (fun x => lt pv x) d1 i2 s = scanDown (fun x => lt pv x) d1 i2 j) (fun s => s) j
      (fun _ => [(0, lv 3 id 0 n), (1, .int .i64 a), (4, .func (.func g) fs.toArray cs.toArray), (11, .int .i64 i2), (12, .int .i64 ((scanDown (fun x => lt pv x) d1 i2 j : Nat) : Int))])
      (fun _ H2 => Same (fun k => k = id) H H2 ∧ Arr Bk.cells H2 id d1) ?_ ?_ ?_ ?_
    · simp [upF, Fr.get, Up.refl]
    · exact ⟨by omega, by omega, hS3, hA3, rfl⟩
    · rintro K KE s H2 ⟨hsn, his, hS2, hA2, hP⟩ hK hKE
      by_cases his2 : i2 ≤ s
      · obtain ⟨r, rfl⟩ : ∃ r, s = r + 1 := ⟨s - 1, by omega⟩
        have hi1 : r + 1 < (d1).size := by omega
        have hi0 : a < (d1).size := by omega
        have n1 : r + 1 < n := by omega
        have n0 : a < n := by omega
        have m1 : (r : Int) + 1 < n := by omega
        have z1 : (0 : Int) ≤ (r : Int) + 1 := by omega
        have his3 : ((i2 : Nat) : Int) ≤ (r : Int) + 1 := by omega
        have hwr : IntKind.i64.wrap (r : Int) = (r : Int) := i64w (by omega) (by omega)
        have c1 := hA2.load Bk.cells_len hi1
        have c0 := hA2.load Bk.cells_len hi0
        have q1 := hQ1 _ hi1
        have q0 := hQ1 _ hi0
        obtain ⟨x, hx⟩ : ∃ x, x = (d1)[r + 1]! := ⟨_, rfl⟩
        rw [← hx] at c1 q1
        rw [← hpv] at c0 q0
        simp only [Bk.cells, Nat.mul_one, Row.val] at c1 c0
        refine AWp.draw mixed [(0, false), (1, false), (2, false), (3, false), (4, false), (5, false), (6, false), (7, false), (8, false), (9, false), (10, false), (11, false), (12, false), (13, false), (14, false), (15, false)] (by kernel_rfl) ?_
        simp (maxSteps := 1000000) [go_sem, his2, his3, c1, c0, n1, n0, m1, z1]
        refine hC H2 pv x _ hS2 q0 q1 ?_
        intro H3 c hp3 hc
        have hS3 := hS2.via (Same.of_prefix (S := fun _ => False) hp3) (fun _ _ h => h.elim)
        have hA3 := hA2.pre hp3
        cases hl' : lt pv x with
        | true =>
          rw [hl'] at hc
          have hc0 := hc
          simp only [decide_eq_true_eq, decide_eq_false_iff_not] at hc0
          simp (maxSteps := 1000000) [go_sem, hc, hc0, hwr]
          exact hK r _ _ (by omega) (by simp [upF, Fr.get, Up.refl]) ⟨by omega, by omega, hS3, hA3, by rw [← hP]; exact (scanDown_go his2 (by show (lt pv d1[r + 1]!) = true; rw [← hx]; simp [hl'])).symm⟩
        | false =>
          rw [hl'] at hc
          have hc0 := hc
          simp only [decide_eq_true_eq, decide_eq_false_iff_not] at hc0
          rw [scanDown_stop (.inr (by show (lt pv d1[r + 1]!) = false; rw [← hx]; simp [hl']))] at hP
          have hP' : ((r : Nat) : Int) + 1 = ((scanDown (fun x => lt pv x) d1 i2 j : Nat) : Int) := by rw [← hP]; simp
          simp (maxSteps := 1000000) [go_sem, hc, hc0]
          exact hKE () _ _ (by simp [upF, Fr.get, Up.refl, hP']) ⟨hS3, hA3⟩
      · rw [scanDown_stop (.inl (by omega))] at hP
        have his3 : ¬ (((i2 : Nat) : Int) ≤ (s : Int)) := by omega
        refine AWp.draw mixed [(0, false), (1, false), (2, false), (3, false), (4, false), (5, false), (6, false), (7, false), (8, false), (9, false), (10, false), (11, false), (12, false), (13, false), (14, false), (15, false)] (by kernel_rfl) ?_
        simp (maxSteps := 1000000) [go_sem, undef, his2, his3]
        exact hKE () _ _ (by simp [upF, Fr.get, Up.refl, hP]) ⟨hS2, hA2⟩
    rintro _ H4 ⟨hS4, hA4⟩
    have hge2 := scanDown_le (fun x => lt pv x) d1 i2 j
    have hle2 := (scanDown_spec (fun x => lt pv x) d1 i2 j).2.1 (by omega)
    have hle2s := (scanDown_spec (fun x => lt pv x) d1 i2 j).2.2.2
    obtain ⟨j2, hj2'⟩ : ∃ J, scanDown (fun x => lt pv x) d1 i2 j = J := ⟨_, rfl⟩
    rw [hj2'] at hge2 hle2 hle2s ⊢
    simp (maxSteps := 1000000) [go_sem]
    rw [hi2', hj2'] at hO
    by_cases hgt : j2 < i2
    · have hgt' : (j2 : Int) < i2 := by omega
      rw [if_pos hgt] at hO
      simp (maxSteps := 1000000) [go_sem, hgt, hgt']
      rw [← hO] at h
      exact h H4 hS4 hA4
    · have hgt' : ¬ ((j2 : Int) < i2) := by omega
      rw [if_neg hgt] at hO
      have hne : i2 ≠ j2 := by
        intro e
        have f1 := hle1s (by omega)
        have f2 := hle2s (by omega) (by omega)
        rw [← e] at f2
        simp only [Bool.not_eq_false'] at f1
        rw [f1] at f2; cases f2
      obtain ⟨r, rfl⟩ : ∃ r, j2 = r + 1 := ⟨j2 - 1, by omega⟩
      have hi1 : i2 < d1.size := by omega
      have hi2 : r + 1 < d1.size := by omega
      have n1 : i2 < n := by omega
      have n2 : r + 1 < n := by omega
      have m2 : (r : Int) + 1 < n := by omega
      have z2 : (0 : Int) ≤ (r : Int) + 1 := by omega
      have hgt3 : ¬ ((r : Int) + 1 < i2) := by omega
      have hwr : IntKind.i64.wrap (r : Int) = (r : Int) := i64w (by omega) (by omega)
      have hwi : IntKind.i64.wrap ((i2 : Int) + 1) = (i2 : Int) + 1 := i64w (by omega) (by omega)
      have ca := hA4.load Bk.cells_len hi1
      have cb := hA4.load Bk.cells_len hi2
      obtain ⟨H5, H6, s1, s0, hA6, hS6, hl6⟩ := hA4.swap Bk.cells_len Bk.cells_one hi1 hi2
      obtain ⟨x, hx⟩ : ∃ x, x = d1[i2]! := ⟨_, rfl⟩
      obtain ⟨y, hy⟩ : ∃ y, y = d1[r + 1]! := ⟨_, rfl⟩
      rw [← hx] at ca s0
      rw [← hy] at cb s1
      simp only [Bk.cells, Nat.mul_one, Row.val] at ca cb s0 s1
      simp (maxSteps := 1000000) [go_sem, hgt, hgt', hgt3]
      refine AWp.draw mixed [(0, false), (1, false), (2, false), (3, false), (4, false), (5, false), (6, false), (7, false), (8, false), (9, false), (10, false), (11, false), (12, false), (13, false), (14, false), (15, false)] (by kernel_rfl) ?_
      simp (maxSteps := 1000000) [go_sem, ca, cb, n1, n2, m2, z2, s1, s0, hwr, hwi]
      exact hK0 (i2 + 1, r, swp d1 i2 (r + 1)) _ _ (by simp only; omega) (by simp [upF, Fr.get, Up.refl]) ⟨by simp only; omega, by simp only; omega, by simp only; omega, by rw [size_swp]; exact hsz, hQ1.swp hi1 hi2, hS4.trans hS6, hA6, hO⟩

end Go.Proofs.Ytdfeoccjllljiaa
end

section
/- Sorting by a function: the partition around a pivot. -/
set_option linter.all false
set_option maxRecDepth 20000
set_option maxHeartbeats 8000000
namespace Go.Proofs.Ytdfeoccjllljiaa
open Go.Ab Go.Sort

theorem partB_ok {H : Heap} {id a b pivot n : Nat} {d : Array Bk} {lt : Bk → Bk → Bool} {g : FuncId} {fs cs : List Value} {Q : Bk → Prop} (hA : Arr Bk.cells H id d) (hn : d.size = n) (hl : n ≤ 1048576) (hap : a ≤ pivot) (hpb : pivot < b) (hb : b ≤ n) (hQ : QA Q d)
    (hC : Cmp Try.prog Bk.val lt g fs cs Q id H) (Post : Value → Heap → Prop) (h : ∀ H', Same (fun k => k = id) H H' → Arr Bk.cells H' id (partition lt d a b pivot).2.2 → Post (.tuple #[.int .i64 ((partition lt d a b pivot).1 : Nat), .bool (partition lt d a b pivot).2.1]) H') :
    ACalls Try.prog 215 [lv 3 id 0 n, .int .i64 a, .int .i64 b, .int .i64 pivot, .func (.func g) fs.toArray cs.toArray] H Post := by
  refine acalls_vc (rs := [.tmp 10, .tmp 11]) Try.func215 rfl rfl Try.ntmps215 rfl rfl ?_
  obtain ⟨b1, hb1⟩ : ∃ b1, b1 = b - 1 := ⟨_, rfl⟩
  obtain ⟨a1, ha1⟩ : ∃ a1, a1 = a + 1 := ⟨_, rfl⟩
  have w0 : IntKind.i64.wrap ((b : Int) - 1) = (b1 : Int) := by rw [hb1, i64w (by omega) (by omega)]; omega
  have w1 : IntKind.i64.wrap ((a : Int) + 1) = (a1 : Int) := by rw [ha1, i64w (by omega) (by omega)]; omega
  have u1 : a < (d).size := by omega
  have u2 : pivot < (d).size := by omega
  have u3 : a < n := by omega
  have u4 : pivot < n := by omega
  have uca := (hA).load Bk.cells_len u1
  have ucb := (hA).load Bk.cells_len u2
  obtain ⟨H5, H6, us1, us0, hA6, hS6, ul⟩ := (hA).swap Bk.cells_len Bk.cells_one u1 u2
  obtain ⟨ux, uhx⟩ : ∃ x, x = (d)[a]! := ⟨_, rfl⟩
  obtain ⟨uy, uhy⟩ : ∃ y, y = (d)[pivot]! := ⟨_, rfl⟩
  rw [← uhx] at uca us0
  rw [← uhy] at ucb us1
  simp only [Bk.cells, Nat.mul_one, Row.val] at uca ucb us0 us1
  have e0 : partition lt d a b pivot = (let i := scanUp (fun x => lt x (swp d a pivot)[a]!) (swp d a pivot) b1 a1
      let j := scanDown (fun x => !lt x (swp d a pivot)[a]!) (swp d a pivot) i b1
      if i > j then (j, true, swp (swp d a pivot) j a) else
        (let r := partLoop lt a (i + 1) (j - 1) (swp (swp d a pivot) i j)
        (r.1, false, swp r.2 r.1 a))) := by rw [hb1, ha1]; rfl
  have hQ6 := hQ.swp u1 u2
  have hsz6 : (swp d a pivot).size = n := by rw [size_swp]; exact hn
  generalize swp d a pivot = d0 at *
  obtain ⟨pv, hpv⟩ : ∃ pv, pv = d0[a]! := ⟨_, rfl⟩
  simp only [← hpv] at e0
  simp (maxSteps := 1000000) [go_sem]
  refine AWp.draw mixed [(0, false), (1, false), (2, false), (3, false), (4, false), (5, false), (6, false), (7, false), (8, false), (9, false), (10, false), (11, false), (12, false), (13, false), (14, false), (15, false)] (by kernel_rfl) ?_
  simp (maxSteps := 1000000) [go_sem, uca, ucb, u3, u4, us1, us0, w0, w1]
  refine AWp.loopCut (St := Nat) (St' := Unit) 0 (fun s => [(0, lv 3 id 0 n), (1, .int .i64 a), (4, .func (.func g) fs.toArray cs.toArray), (12, .int .i64 s), (13, .int .i64 b1)])
    (fun s H2 => a < s ∧ s ≤ b1 + 1 ∧ Same (fun k => k = id) H H2 ∧ Arr Bk.cells H2 id d0 ∧ scanUp (fun x => lt x pv) d0 b1 s = scanUp (fun x => lt x pv) d0 b1 a1) (fun s => b1 + 1 - s) a1
    (fun _ => [(0, lv 3 id 0 n), (1, .int .i64 a), (4, .func (.func g) fs.toArray cs.toArray), (12, .int .i64 ((scanUp (fun x => lt x pv) d0 b1 a1 : Nat) : Int)), (13, .int .i64 b1)])
    (fun _ H2 => Same (fun k => k = id) H H2 ∧ Arr Bk.cells H2 id d0) ?_ ?_ ?_ ?_
  · simp [upF, Fr.get, Up.refl]
  · exact ⟨by omega, by omega, hS6, hA6, rfl⟩
  · rintro K KE s H2 ⟨has, hsj, hS2, hA2, hP⟩ hK hKE
    by_cases hsj2 : s ≤ b1
    · have hi1 : s < (d0).size := by omega
      have hi0 : a < (d0).size := by omega
      have n1 : s < n := by omega
      have n0 : a < n := by omega
      have hsj3 : (s : Int) ≤ ((b1 : Nat) : Int) := by omega
      have hw_s : IntKind.i64.wrap ((s : Int) + 1) = (s : Int) + 1 := i64w (by omega) (by omega)
      have c1 := hA2.load Bk.cells_len hi1
      have c0 := hA2.load Bk.cells_len hi0
      have q1 := hQ6 _ hi1
      have q0 := hQ6 _ hi0
      obtain ⟨x, hx⟩ : ∃ x, x = (d0)[s]! := ⟨_, rfl⟩
      rw [← hx] at c1 q1
      rw [← hpv] at c0 q0
      simp only [Bk.cells, Nat.mul_one, Row.val] at c1 c0
      refine AWp.draw mixed [(0, false), (1, false), (2, false), (3, false), (4, false), (5, false), (6, false), (7, false), (8, false), (9, false), (10, false), (11, false), (12, false), (13, false), (14, false), (15, false)] (by kernel_rfl) ?_
      simp (maxSteps := 1000000) [go_sem, hsj2, hsj3, c1, c0, n1, n0]
      refine hC H2 x pv _ hS2 q1 q0 ?_
      intro H3 c hp3 hc
      have hS3 := hS2.via (Same.of_prefix (S := fun _ => False) hp3) (fun _ _ h => h.elim)
      have hA3 := hA2.pre hp3
      cases hl' : lt x pv with
      | true =>
        rw [hl'] at hc
        have hc0 := hc
        simp only [decide_eq_true_eq, decide_eq_false_iff_not] at hc0
        simp (maxSteps := 1000000) [go_sem, hc, hc0, hw_s]
        exact hK (s + 1) _ _ (by omega) (by simp [upF, Fr.get, Up.refl]) ⟨by omega, by omega, hS3, hA3, by rw [← hP]; exact (scanUp_go hsj2 (by show lt d0[s]! pv = true; rw [← hx]; simp [hl'])).symm⟩
      | false =>
        rw [hl'] at hc
        have hc0 := hc
        simp only [decide_eq_true_eq, decide_eq_false_iff_not] at hc0
        rw [scanUp_stop (.inr (by show lt d0[s]! pv = false; rw [← hx]; simp [hl']))] at hP
        simp (maxSteps := 1000000) [go_sem, hc, hc0]
        exact hKE () _ _ (by simp [upF, Fr.get, Up.refl, hP]) ⟨hS3, hA3⟩
    · rw [scanUp_stop (.inl (by omega))] at hP
      have hsj3 : ¬ ((s : Int) ≤ ((b1 : Nat) : Int)) := by omega
      refine AWp.draw mixed [(0, false), (1, false), (2, false), (3, false), (4, false), (5, false), (6, false), (7, false), (8, false), (9, false), (10, false), (11, false), (12, false), (13, false), (14, false), (15, false)] (by kernel_rfl) ?_
      simp (maxSteps := 1000000) [go_sem, undef, hsj2, hsj3]
      exact hKE () _ _ (by simp [upF, Fr.get, Up.refl, hP]) ⟨hS2, hA2⟩
  rintro _ H7 ⟨hS7, hA7⟩
  have hge1 := scanUp_ge (fun x => lt x pv) d0 b1 a1
  have hle1 := (scanUp_spec (fun x => lt x pv) d0 b1 _ a1 rfl).2.1 (by omega)
  have hle1s := (scanUp_spec (fun x => lt x pv) d0 b1 _ a1 rfl).2.2.2
  obtain ⟨i2, hi2'⟩ : ∃ I, scanUp (fun x => lt x pv) d0 b1 a1 = I := ⟨_, rfl⟩
  rw [hi2'] at hge1 hle1 hle1s ⊢
  simp (maxSteps := 1000000) [go_sem]
  refine AWp.loopCut (St := Nat) (St' := Unit) 2 (fun s => [(0, lv 3 id 0 n), (1, .int .i64 a), (4, .func (.func g) fs.toArray cs.toArray), (12, .int .i64 i2), (13, .int .i64 s)])
    (fun s H2 => s < n ∧ i2 ≤ s + 1 ∧ Same (fun k => k = id) H H2 ∧ Arr Bk.cells H2 id d0 ∧ scanDown (fun x => !lt x pv) d0 i2 s = scanDown (fun x => !lt x pv) d0 i2 b1) (fun s => s) b1
    (fun _ => [(0, lv 3 id 0 n), (1, .int .i64 a), (4, .func (.func g) fs.toArray cs.toArray), (12, .int .i64 i2), (13, .int .i64 ((scanDown (fun x => !lt x pv) d0 i2 b1 : Nat) : Int))])
    (fun _ H2 => Same (fun k => k = id) H H2 ∧ Arr Bk.cells H2 id d0) ?_ ?_ ?_ ?_
  · simp [upF, Fr.get, Up.refl]
  · exact ⟨by omega, by omega, hS7, hA7, rfl⟩
  · rintro K KE s H2 ⟨hsn, his, hS2, hA2, hP⟩ hK hKE
    by_cases his2 : i2 ≤ s
    · obtain ⟨r, rfl⟩ : ∃ r, s = r + 1 := ⟨s - 1, by omega⟩
      have hi1 : r + 1 < (d0).size := by omega
      have hi0 : a < (d0).size := by omega
      have n1 : r + 1 < n := by omega
      have n0 : a < n := by omega
      have m1 : (r : Int) + 1 < n := by omega
      have z1 : (0 : Int) ≤ (r : Int) + 1 := by omega
      have his3 : ((i2 : Nat) : Int) ≤ (r : Int) + 1 := by omega
      have hwr : IntKind.i64.wrap (r : Int) = (r : Int) := i64w (by omega) (by omega)
      have c1 := hA2.load Bk.cells_len hi1
      have c0 := hA2.load Bk.cells_len hi0
      have q1 := hQ6 _ hi1
      have q0 := hQ6 _ hi0
      obtain ⟨x, hx⟩ : ∃ x, x = (d0)[r + 1]! := ⟨_, rfl⟩
      rw [← hx] at c1 q1
      rw [← hpv] at c0 q0
      simp only [Bk.cells, Nat.mul_one, Row.val] at c1 c0
      refine AWp.draw mixed [(0, false), (1, false), (2, false), (3, false), (4, false), (5, false), (6, false), (7, false), (8, false), (9, false), (10, false), (11, false), (12, false), (13, false), (14, false), (15, false), (16, false)] (by kernel_rfl) ?_
      simp (maxSteps := 1000000) [go_sem, his2, his3, c1, c0, n1, n0, m1, z1]
      refine hC H2 x pv _ hS2 q1 q0 ?_
      intro H3 c hp3 hc
      have hS3 := hS2.via (Same.of_prefix (S := fun _ => False) hp3) (fun _ _ h => h.elim)
      have hA3 := hA2.pre hp3
      cases hl' : lt x pv with
      | false =>
        rw [hl'] at hc
        have hc0 := hc
        simp only [decide_eq_true_eq, decide_eq_false_iff_not] at hc0
        simp (maxSteps := 1000000) [go_sem, hc, hc0, hwr]
        exact hK r _ _ (by omega) (by simp [upF, Fr.get, Up.refl]) ⟨by omega, by omega, hS3, hA3, by rw [← hP]; exact (scanDown_go his2 (by show (!lt d0[r + 1]! pv) = true; rw [← hx]; simp [hl'])).symm⟩
      | true =>
        rw [hl'] at hc
        have hc0 := hc
        simp only [decide_eq_true_eq, decide_eq_false_iff_not] at hc0
        rw [scanDown_stop (.inr (by show (!lt d0[r + 1]! pv) = false; rw [← hx]; simp [hl']))] at hP
        have hP' : ((r : Nat) : Int) + 1 = ((scanDown (fun x => !lt x pv) d0 i2 b1 : Nat) : Int) := by rw [← hP]; simp
        simp (maxSteps := 1000000) [go_sem, hc, hc0]
        exact hKE () _ _ (by simp [upF, Fr.get, Up.refl, hP']) ⟨hS3, hA3⟩
    · rw [scanDown_stop (.inl (by omega))] at hP
      have his3 : ¬ (((i2 : Nat) : Int) ≤ (s : Int)) := by omega
      refine AWp.draw mixed [(0, false), (1, false), (2, false), (3, false), (4, false), (5, false), (6, false), (7, false), (8, false), (9, false), (10, false), (11, false), (12, false), (13, false), (14, false), (15, false), (16, false)] (by kernel_rfl) ?_
      simp (maxSteps := 1000000) [go_sem, undef, his2, his3]
      exact hKE () _ _ (by simp [upF, Fr.get, Up.refl, hP]) ⟨hS2, hA2⟩
  rintro _ H8 ⟨hS8, hA8⟩
  have hge2 := scanDown_le (fun x => !lt x pv) d0 i2 b1
  have hle2 := (scanDown_spec (fun x => !lt x pv) d0 i2 b1).2.1 (by omega)
  have hle2s := (scanDown_spec (fun x => !lt x pv) d0 i2 b1).2.2.2
  obtain ⟨j2, hj2'⟩ : ∃ J, scanDown (fun x => !lt x pv) d0 i2 b1 = J := ⟨_, rfl⟩
  rw [hj2'] at hge2 hle2 hle2s ⊢
  simp (maxSteps := 1000000) [go_sem]
  simp only [hi2', hj2'] at e0
  by_cases hgt : j2 < i2
  · have hgt' : (j2 : Int) < i2 := by omega
    rw [if_pos hgt] at e0
    rw [e0] at h
    have v1 : j2 < (d0).size := by omega
    have v2 : a < (d0).size := by omega
    have v3 : j2 < n := by omega
    have v4 : a < n := by omega
    have vca := (hA8).load Bk.cells_len v1
    have vcb := (hA8).load Bk.cells_len v2
    obtain ⟨H9, HA, vs1, vs0, hAA, hSA, vl⟩ := (hA8).swap Bk.cells_len Bk.cells_one v1 v2
    obtain ⟨vx, vhx⟩ : ∃ x, x = (d0)[j2]! := ⟨_, rfl⟩
    obtain ⟨vy, vhy⟩ : ∃ y, y = (d0)[a]! := ⟨_, rfl⟩
    rw [← vhx] at vca vs0
    rw [← vhy] at vcb vs1
    simp only [Bk.cells, Nat.mul_one, Row.val] at vca vcb vs0 vs1
    simp (maxSteps := 1000000) [go_sem, hgt, hgt']
    refine AWp.draw mixed [(0, false), (1, false), (2, false), (3, false), (4, false), (5, false), (6, false), (7, false), (8, false), (9, false), (10, false), (11, false), (12, false), (13, false), (14, false), (15, false)] (by kernel_rfl) ?_
    simp (maxSteps := 1000000) [go_sem, vca, vcb, v3, v4, vs1, vs0]
    exact h HA (hS8.trans hSA) hAA
  · have hgt' : ¬ ((j2 : Int) < i2) := by omega
    rw [if_neg hgt] at e0
    have hne : i2 ≠ j2 := by
      intro e
      have f1 := hle1s (by omega)
      have f2 := hle2s (by omega) (by omega)
      rw [← e] at f2
      rw [f1] at f2; cases f2
    have v1 : i2 < (d0).size := by omega
    have v2 : j2 < (d0).size := by omega
    have v3 : i2 < n := by omega
    have v4 : j2 < n := by omega
    have vca := (hA8).load Bk.cells_len v1
    have vcb := (hA8).load Bk.cells_len v2
    obtain ⟨H9, HA, vs1, vs0, hAA, hSA, vl⟩ := (hA8).swap Bk.cells_len Bk.cells_one v1 v2
    obtain ⟨vx, vhx⟩ : ∃ x, x = (d0)[i2]! := ⟨_, rfl⟩
    obtain ⟨vy, vhy⟩ : ∃ y, y = (d0)[j2]! := ⟨_, rfl⟩
    rw [← vhx] at vca vs0
    rw [← vhy] at vcb vs1
    simp only [Bk.cells, Nat.mul_one, Row.val] at vca vcb vs0 vs1
    have hQA := hQ6.swp v1 v2
    have hszA : (swp d0 i2 j2).size = n := by rw [size_swp]; exact hsz6
    have hSA := hS8.trans hSA
    obtain ⟨i3, hi3⟩ : ∃ i3, i3 = i2 + 1 := ⟨_, rfl⟩
    obtain ⟨j3, hj3⟩ : ∃ j3, j3 = j2 - 1 := ⟨_, rfl⟩
    have w4 : IntKind.i64.wrap ((j2 : Int) - 1) = (j3 : Int) := by rw [hj3, i64w (by omega) (by omega)]; omega
    have w5 : IntKind.i64.wrap ((i2 : Int) + 1) = (i3 : Int) := by rw [hi3, i64w (by omega) (by omega)]; omega
    rw [← hi3, ← hj3] at e0
    have hj3n : j3 < n := by omega
    have hi3j : i3 ≤ j3 + 1 := by omega
    have hai3 : a < i3 := by omega
    generalize swp d0 i2 j2 = dA at *
    simp (maxSteps := 1000000) [go_sem, hgt, hgt']
    refine AWp.draw mixed [(0, false), (1, false), (2, false), (3, false), (4, false), (5, false), (6, false), (7, false), (8, false), (9, false), (10, false), (11, false), (12, false), (13, false), (14, false), (15, false)] (by kernel_rfl) ?_
    simp (maxSteps := 1000000) [go_sem, vca, vcb, v3, v4, vs1, vs0, w4, w5]
    clear hle1s hle2s hi2' hj2' vs1 vs0 vca vcb us1 us0 uca ucb
    refine AWp.loopVc (St := Nat × Nat × Array Bk) (fun s => [(0, lv 3 id 0 n), (1, .int .i64 a), (4, .func (.func g) fs.toArray cs.toArray), (12, .int .i64 s.1), (13, .int .i64 s.2.1)])
      (fun s H' => a < s.1 ∧ s.1 ≤ s.2.1 + 1 ∧ s.2.1 < n ∧ s.2.2.size = n ∧ QA Q s.2.2 ∧ Same (fun k => k = id) H H' ∧ Arr Bk.cells H' id s.2.2 ∧ partLoop lt a s.1 s.2.1 s.2.2 = partLoop lt a i3 j3 dA) (fun s => s.2.1 + 1 - s.1) (i3, j3, dA) ?_ ?_ ?_
    · simp [upF, Fr.get, Up.refl]
    · exact ⟨hai3, hi3j, hj3n, hszA, hQA, hSA, hAA, rfl⟩
    · rintro K0 ⟨i, j, d1⟩ H1 ⟨hai, hij, hjn, hsz, hQ1, hS1, hA1, hO⟩ hK0
      simp only at hai hij hjn hsz hQ1 hS1 hA1 hO
      obtain ⟨pw, hpw⟩ : ∃ pw, pw = d1[a]! := ⟨_, rfl⟩
      rw [partLoop_eq, ← hpw] at hO
      simp (maxSteps := 1000000) [go_sem]
      refine AWp.loopCut (St := Nat) (St' := Unit) 6 (fun s => [(0, lv 3 id 0 n), (1, .int .i64 a), (4, .func (.func g) fs.toArray cs.toArray), (12, .int .i64 s), (13, .int .i64 j)])
        (fun s H2 => a < s ∧ s ≤ j + 1 ∧ Same (fun k => k = id) H H2 ∧ Arr Bk.cells H2 id d1 ∧ scanUp (fun x => lt x pw) d1 j s = scanUp (fun x => lt x pw) d1 j i) (fun s => j + 1 - s) i
        (fun _ => [(0, lv 3 id 0 n), (1, .int .i64 a), (4, .func (.func g) fs.toArray cs.toArray), (12, .int .i64 ((scanUp (fun x => lt x pw) d1 j i : Nat) : Int)), (13, .int .i64 j)])
        (fun _ H2 => Same (fun k => k = id) H H2 ∧ Arr Bk.cells H2 id d1) ?_ ?_ ?_ ?_
      · simp [upF, Fr.get, Up.refl]
      · exact ⟨by omega, by omega, hS1, hA1, rfl⟩
      · rintro K KE s H2 ⟨has, hsj, hS2, hA2, hP⟩ hK hKE
        by_cases hsj2 : s ≤ j
        · have hi1 : s < (d1).size := by omega
          have hi0 : a < (d1).size := by omega
          have n1 : s < n := by omega
          have n0 : a < n := by omega
          have hsj3 : (s : Int) ≤ ((j : Nat) : Int) := by omega
          have hw_s : IntKind.i64.wrap ((s : Int) + 1) = (s : Int) + 1 := i64w (by omega) (by omega)
          have c1 := hA2.load Bk.cells_len hi1
          have c0 := hA2.load Bk.cells_len hi0
          have q1 := hQ1 _ hi1
          have q0 := hQ1 _ hi0
          obtain ⟨x, hx⟩ : ∃ x, x = (d1)[s]! := ⟨_, rfl⟩
          rw [← hx] at c1 q1
          rw [← hpw] at c0 q0
          simp only [Bk.cells, Nat.mul_one, Row.val] at c1 c0
          refine AWp.draw mixed [(0, false), (1, false), (2, false), (3, false), (4, false), (5, false), (6, false), (7, false), (8, false), (9, false), (10, false), (11, false), (12, false), (13, false), (14, false), (15, false)] (by kernel_rfl) ?_
          simp (maxSteps := 1000000) [go_sem, hsj2, hsj3, c1, c0, n1, n0]
          refine hC H2 x pw _ hS2 q1 q0 ?_
          intro H3 c hp3 hc
          have hS3 := hS2.via (Same.of_prefix (S := fun _ => False) hp3) (fun _ _ h => h.elim)
          have hA3 := hA2.pre hp3
          cases hl' : lt x pw with
          | true =>
            rw [hl'] at hc
            have hc0 := hc
            simp only [decide_eq_true_eq, decide_eq_false_iff_not] at hc0
            simp (maxSteps := 1000000) [go_sem, hc, hc0, hw_s]
            exact hK (s + 1) _ _ (by omega) (by simp [upF, Fr.get, Up.refl]) ⟨by omega, by omega, hS3, hA3, by rw [← hP]; exact (scanUp_go hsj2 (by show lt d1[s]! pw = true; rw [← hx]; simp [hl'])).symm⟩
          | false =>
            rw [hl'] at hc
            have hc0 := hc
            simp only [decide_eq_true_eq, decide_eq_false_iff_not] at hc0
            rw [scanUp_stop (.inr (by show lt d1[s]! pw = false; rw [← hx]; simp [hl']))] at hP
            simp (maxSteps := 1000000) [go_sem, hc, hc0]
            exact hKE () _ _ (by simp [upF, Fr.get, Up.refl, hP]) ⟨hS3, hA3⟩
        · rw [scanUp_stop (.inl (by omega))] at hP
          have hsj3 : ¬ ((s : Int) ≤ ((j : Nat) : Int)) := by omega
          refine AWp.draw mixed [(0, false), (1, false), (2, false), (3, false), (4, false), (5, false), (6, false), (7, false), (8, false), (9, false), (10, false), (11, false), (12, false), (13, false), (14, false), (15, false)] (by kernel_rfl) ?_
          simp (maxSteps := 1000000) [go_sem, undef, hsj2, hsj3]
          exact hKE () _ _ (by simp [upF, Fr.get, Up.refl, hP]) ⟨hS2, hA2⟩
      rintro _ H3 ⟨hS3, hA3⟩
      have hge3 := scanUp_ge (fun x => lt x pw) d1 j i
      have hle3 := (scanUp_spec (fun x => lt x pw) d1 j _ i rfl).2.1 (by omega)
      have hle3s := (scanUp_spec (fun x => lt x pw) d1 j _ i rfl).2.2.2
      obtain ⟨i4, hi4'⟩ : ∃ I, scanUp (fun x => lt x pw) d1 j i = I := ⟨_, rfl⟩
      rw [hi4'] at hge3 hle3 hle3s ⊢
      simp (maxSteps := 1000000) [go_sem]
      refine AWp.loopCut (St := Nat) (St' := Unit) 8 (fun s => [(0, lv 3 id 0 n), (1, .int .i64 a), (4, .func (.func g) fs.toArray cs.toArray), (12, .int .i64 i4), (13, .int .i64 s)])
        (fun s H2 => s < n ∧ i4 ≤ s + 1 ∧ Same (fun k => k = id) H H2 ∧ Arr Bk.cells H2 id d1 ∧ scanDown (fun x => !lt x pw) d1 i4 s = scanDown (fun x => !lt x pw) d1 i4 j) (fun s => s) j
        (fun _ => [(0, lv 3 id 0 n), (1, .int .i64 a), (4, .func (.func g) fs.toArray cs.toArray), (12, .int .i64 i4), (13, .int .i64 ((scanDown (fun x => !lt x pw) d1 i4 j : Nat) : Int))])
        (fun _ H2 => Same (fun k => k = id) H H2 ∧ Arr Bk.cells H2 id d1) ?_ ?_ ?_ ?_
      · simp [upF, Fr.get, Up.refl]
      · exact ⟨by omega, by omega, hS3, hA3, rfl⟩
      · rintro K KE s H2 ⟨hsn, his, hS2, hA2, hP⟩ hK hKE
        by_cases his2 : i4 ≤ s
        · obtain ⟨r, rfl⟩ : ∃ r, s = r + 1 := ⟨s - 1, by omega⟩
          have hi1 : r + 1 < (d1).size := by omega
          have hi0 : a < (d1).size := by omega
          have n1 : r + 1 < n := by omega
          have n0 : a < n := by omega
          have m1 : (r : Int) + 1 < n := by omega
          have z1 : (0 : Int) ≤ (r : Int) + 1 := by omega
          have his3 : ((i4 : Nat) : Int) ≤ (r : Int) + 1 := by omega
          have hwr : IntKind.i64.wrap (r : Int) = (r : Int) := i64w (by omega) (by omega)
          have c1 := hA2.load Bk.cells_len hi1
          have c0 := hA2.load Bk.cells_len hi0
          have q1 := hQ1 _ hi1
          have q0 := hQ1 _ hi0
          obtain ⟨x, hx⟩ : ∃ x, x = (d1)[r + 1]! := ⟨_, rfl⟩
          rw [← hx] at c1 q1
          rw [← hpw] at c0 q0
          simp only [Bk.cells, Nat.mul_one, Row.val] at c1 c0
          refine AWp.draw mixed [(0, false), (1, false), (2, false), (3, false), (4, false), (5, false), (6, false), (7, false), (8, false), (9, false), (10, false), (11, false), (12, false), (13, false), (14, false), (15, false), (16, false)] (by kernel_rfl) ?_
          simp (maxSteps := 1000000) [go_sem, his2, his3, c1, c0, n1, n0, m1, z1]
          refine hC H2 x pw _ hS2 q1 q0 ?_
          intro H3 c hp3 hc
          have hS3 := hS2.via (Same.of_prefix (S := fun _ => False) hp3) (fun _ _ h => h.elim)
          have hA3 := hA2.pre hp3
          cases hl' : lt x pw with
          | false =>
            rw [hl'] at hc
            have hc0 := hc
            simp only [decide_eq_true_eq, decide_eq_false_iff_not] at hc0
            simp (maxSteps := 1000000) [go_sem, hc, hc0, hwr]
            exact hK r _ _ (by omega) (by simp [upF, Fr.get, Up.refl]) ⟨by omega, by omega, hS3, hA3, by rw [← hP]; exact (scanDown_go his2 (by show (!lt d1[r + 1]! pw) = true; rw [← hx]; simp [hl'])).symm⟩
          | true =>
            rw [hl'] at hc
            have hc0 := hc
            simp only [decide_eq_true_eq, decide_eq_false_iff_not] at hc0
            rw [scanDown_stop (.inr (by show (!lt d1[r + 1]! pw) = false; rw [← hx]; simp [hl']))] at hP
            have hP' : ((r : Nat) : Int) + 1 = ((scanDown (fun x => !lt x pw) d1 i4 j : Nat) : Int) := by rw [← hP]; simp
            simp (maxSteps := 1000000) [go_sem, hc, hc0]
            exact hKE () _ _ (by simp [upF, Fr.get, Up.refl, hP']) ⟨hS3, hA3⟩
        · rw [scanDown_stop (.inl (by omega))] at hP
          have his3 : ¬ (((i4 : Nat) : Int) ≤ (s : Int)) := by omega
          refine AWp.draw mixed [(0, false), (1, false), (2, false), (3, false), (4, false), (5, false), (6, false), (7, false), (8, false), (9, false), (10, false), (11, false), (12, false), (13, false), (14, false), (15, false), (16, false)] (by kernel_rfl) ?_
          simp (maxSteps := 1000000) [go_sem, undef, his2, his3]
          exact hKE () _ _ (by simp [upF, Fr.get, Up.refl, hP]) ⟨hS2, hA2⟩
      rintro _ H4 ⟨hS4, hA4⟩
      have hge4 := scanDown_le (fun x => !lt x pw) d1 i4 j
      have hle4 := (scanDown_spec (fun x => !lt x pw) d1 i4 j).2.1 (by omega)
      have hle4s := (scanDown_spec (fun x => !lt x pw) d1 i4 j).2.2.2
      obtain ⟨j4, hj4'⟩ : ∃ J, scanDown (fun x => !lt x pw) d1 i4 j = J := ⟨_, rfl⟩
      rw [hj4'] at hge4 hle4 hle4s ⊢
      simp (maxSteps := 1000000) [go_sem]
      rw [hi4', hj4'] at hO
      by_cases hgt : j4 < i4
      · have hgt' : (j4 : Int) < i4 := by omega
        rw [if_pos hgt] at hO
        rw [← hO] at e0
        rw [e0] at h
        have z1 : j4 < (d1).size := by omega
        have z2 : a < (d1).size := by omega
        have z3 : j4 < n := by omega
        have z4 : a < n := by omega
        have zca := (hA4).load Bk.cells_len z1
        have zcb := (hA4).load Bk.cells_len z2
        obtain ⟨HC, HD, zs1, zs0, hAD, hSD, zl⟩ := (hA4).swap Bk.cells_len Bk.cells_one z1 z2
        obtain ⟨zx, zhx⟩ : ∃ x, x = (d1)[j4]! := ⟨_, rfl⟩
        obtain ⟨zy, zhy⟩ : ∃ y, y = (d1)[a]! := ⟨_, rfl⟩
        rw [← zhx] at zca zs0
        rw [← zhy] at zcb zs1
        simp only [Bk.cells, Nat.mul_one, Row.val] at zca zcb zs0 zs1
        simp (maxSteps := 1000000) [go_sem, hgt, hgt']
        refine AWp.draw mixed [(0, false), (1, false), (2, false), (3, false), (4, false), (5, false), (6, false), (7, false), (8, false), (9, false), (10, false), (11, false), (12, false), (13, false), (14, false), (15, false)] (by kernel_rfl) ?_
        simp (maxSteps := 1000000) [go_sem, zca, zcb, z3, z4, zs1, zs0]
        exact h HD (hS4.trans hSD) hAD
      · have hgt' : ¬ ((j4 : Int) < i4) := by omega
        rw [if_neg hgt] at hO
        have hne : i4 ≠ j4 := by
          intro e
          have f1 := hle3s (by omega)
          have f2 := hle4s (by omega) (by omega)
          rw [← e] at f2
          rw [f1] at f2; cases f2
        have z1 : i4 < (d1).size := by omega
        have z2 : j4 < (d1).size := by omega
        have z3 : i4 < n := by omega
        have z4 : j4 < n := by omega
        have zca := (hA4).load Bk.cells_len z1
        have zcb := (hA4).load Bk.cells_len z2
        obtain ⟨HC, HD, zs1, zs0, hAD, hSD, zl⟩ := (hA4).swap Bk.cells_len Bk.cells_one z1 z2
        obtain ⟨zx, zhx⟩ : ∃ x, x = (d1)[i4]! := ⟨_, rfl⟩
        obtain ⟨zy, zhy⟩ : ∃ y, y = (d1)[j4]! := ⟨_, rfl⟩
        rw [← zhx] at zca zs0
        rw [← zhy] at zcb zs1
        simp only [Bk.cells, Nat.mul_one, Row.val] at zca zcb zs0 zs1
        obtain ⟨i5, hi5⟩ : ∃ i5, i5 = i4 + 1 := ⟨_, rfl⟩
        obtain ⟨j5, hj5⟩ : ∃ j5, j5 = j4 - 1 := ⟨_, rfl⟩
        have w6 : IntKind.i64.wrap ((j4 : Int) - 1) = (j5 : Int) := by rw [hj5, i64w (by omega) (by omega)]; omega
        have w7 : IntKind.i64.wrap ((i4 : Int) + 1) = (i5 : Int) := by rw [hi5, i64w (by omega) (by omega)]; omega
        rw [← hi5, ← hj5] at hO
        simp (maxSteps := 1000000) [go_sem, hgt, hgt']
        refine AWp.draw mixed [(0, false), (1, false), (2, false), (3, false), (4, false), (5, false), (6, false), (7, false), (8, false), (9, false), (10, false), (11, false), (12, false), (13, false), (14, false), (15, false)] (by kernel_rfl) ?_
        simp (maxSteps := 1000000) [go_sem, zca, zcb, z3, z4, zs1, zs0, w6, w7]
        exact hK0 (i5, j5, swp d1 i4 j4) _ _ (by simp only; omega) (by simp [upF, Fr.get, Up.refl]) ⟨by simp only; omega, by simp only; omega, by simp only; omega, by rw [size_swp]; exact hsz, hQ1.swp z1 z2, hS4.trans hSD, hAD, hO⟩

end Go.Proofs.Ytdfeoccjllljiaa
end
