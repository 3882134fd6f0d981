/- Sorting blocks: the specification's side. -/
import Derived.Test.YtkgjdmbmdnmilaaIndepI
import Derived.Test.YtkgjdmbmdnmilaaTake
set_option linter.all false
set_option maxRecDepth 20000
set_option maxHeartbeats 4000000
namespace Go.Proofs.Ytkgjdmbmdnmilaa
open Go.Ab

/-- A block put into blocks, from the end on. -/
def insRev (x : Bk) : List Bk → List Bk
  | [] => [x]
  | y :: l => if before x y then y :: insRev x l else x :: y :: l
def insR (x : Bk) (l : List Bk) : List Bk := (insRev x l.reverse).reverse
def sortB (bs : List Bk) : List Bk := bs.foldl (fun l x => insR x l) []
theorem insRev_append {x : Bk} {B : List Bk} (hB : ∀ y l, B = y :: l → before x y = false) : ∀ {A : List Bk}, (∀ y ∈ A, before x y = true) → insRev x (A ++ B) = A ++ x :: B
  | [], _ => by
    cases B with
    | nil => rfl
    | cons y l => simp [insRev, hB y l rfl]
  | y :: A, h => by
    simp only [List.cons_append, insRev, h y List.mem_cons_self, if_true]
    rw [insRev_append hB fun z hz => h z (List.mem_cons_of_mem _ hz)]
theorem insR_at {x : Bk} {l : List Bk} {k : Nat} (hk : k ≤ l.length) (h1 : ∀ y ∈ l.drop k, before x y = true) (h2 : ∀ (r : Nat) (y : Bk), k = r + 1 → l[r]? = some y → before x y = false) : insR x l = l.take k ++ x :: l.drop k := by
  unfold insR
  conv => lhs; rw [← List.take_append_drop k l]
  rw [List.reverse_append, insRev_append (B := (l.take k).reverse) ?_ (fun y hy => h1 y (by simpa using hy))]
  · simp
  · intro y t e
    cases k with
    | zero => simp at e
    | succ r =>
      have hr : r < l.length := by omega
      have e2 : (l.take (r + 1)).reverse = l[r] :: (l.take r).reverse := by rw [List.take_succ_eq_append_getElem hr]; simp
      rw [e2] at e
      cases e
      exact h2 r _ rfl (List.getElem?_eq_getElem hr)
theorem insR_length (x : Bk) (l : List Bk) : (insR x l).length = l.length + 1 := by
  have key : ∀ l : List Bk, (insRev x l).length = l.length + 1 := by
    intro l
    induction l with
    | nil => rfl
    | cons y l ih => simp only [insRev]; split <;> simp [ih]
  unfold insR; rw [List.length_reverse, key, List.length_reverse]
theorem sortB_snoc (bs : List Bk) (x : Bk) : sortB (bs ++ [x]) = insR x (sortB bs) := by simp [sortB, List.foldl_append]
theorem sortB_length : ∀ (n : Nat) (bs : List Bk), bs.length = n → (sortB bs).length = n
  | 0, bs, h => by have := List.eq_nil_of_length_eq_zero h; subst this; rfl
  | n + 1, bs, h => by
    have hne : bs ≠ [] := by rintro rfl; simp at h
    rw [← List.dropLast_concat_getLast hne, sortB_snoc, insR_length, sortB_length n _ (by simp [h])]
/-- Ascending blocks stay as they are. -/
theorem sortB_same {bs : List Bk} (h : ∀ (r : Nat) (x y : Bk), bs[r]? = some y → bs[r + 1]? = some x → before x y = false) : ∀ k, sortB (bs.take k) = bs.take k
  | 0 => by simp [sortB]
  | k + 1 => by
    by_cases hk : k < bs.length
    · rw [List.take_succ_eq_append_getElem hk, sortB_snoc, sortB_same h k]
      have hl : (bs.take k).length = k := by simp; omega
      rw [insR_at (k := k) (by omega) (by rw [List.drop_eq_nil_of_le (by omega)]; simp) ?_]
      · rw [List.drop_eq_nil_of_le (by omega), List.take_of_length_le (by omega)]
      · intro r y e hy
        subst e
        rw [List.getElem?_take, if_pos (by omega)] at hy
        exact h r _ y hy (List.getElem?_eq_getElem hk)
    · rw [List.take_of_length_le (by omega)]
      have := sortB_same h k
      rwa [List.take_of_length_le (by omega)] at this

theorem l01Sort_ok {H : Heap} {u : Value} {bs : List Bk} (hu : BlocksAt H u bs) (hl : bs.length ≤ 1048576) (Post : Value → Heap → Prop)
    (h : ∀ H' w, H <+: H' → BlocksIn H.length H'.length H' w (sortB bs) → Post w H') : ACalls Try.prog 185 [u] H Post := by
  obtain ⟨i, o, rfl, h1, h2⟩ := hu
  refine ACalls.res ?_
  refine acalls_vc (rs := [.tmp 2]) Try.func185 rfl rfl Try.ntmps185 rfl rfl ?_
  simp (maxSteps := 1000000) [go_sem]
  refine AWp.loopVc (St := Nat × Nat) (fun s => [(0, lv 3 i o bs.length), (3, lv 3 s.2 0 s.1), (4, .int .i64 s.1)])
    (fun s H' => s.1 ≤ bs.length ∧ Bl 3 H H' s.2 (tri (sortB (bs.take s.1))) s.1) (fun s => bs.length - s.1) (0, H.length) ?_ ?_ ?_
  · simp [upF, Fr.get, Up.refl, Up.ex0]
  · exact ⟨by simp, by simpa [sortB, tri] using Bl.nil 3 H⟩
  · rintro K ⟨s, id⟩ H' ⟨hs, hbl⟩ hK
    simp only at hs hbl
    by_cases hlt : s < bs.length
    · have hbs : bs[s]? = some bs[s] := List.getElem?_eq_getElem hlt
      have c1 := (h1.pre hbl.1).bk hbs
      have hw_s : IntKind.i64.wrap ((s : Int) + 1) = (s : Int) + 1 := i64w (by omega) (by omega)
      obtain ⟨hsrc, H4, hap, hbl4⟩ := hbl.push (xs := bs[s].cells) (by omega) rfl
      have hll : (sortB (bs.take s)).length = s := sortB_length s _ (by simp; omega)
      have hsn : sortB (bs.take (s + 1)) = insR bs[s] (sortB (bs.take s)) := by rw [List.take_succ_eq_append_getElem hlt, sortB_snoc]
      obtain ⟨l, hl0⟩ : ∃ l, l = sortB (bs.take s) := ⟨_, rfl⟩
      obtain ⟨x, hx⟩ : ∃ x, x = bs[s] := ⟨_, rfl⟩
      rw [← hl0] at hll hsn hbl4
      rw [← hx] at c1 hbs hsn hbl4 hap hsrc
      simp only [Bk.cells] at c1 hsrc hap
      have hid4 : H4[H'.length + 1]? = some ⟨tri (l ++ [x]), true, true⟩ := by
        rcases hbl4.2.1.2 with ⟨h0, _⟩ | hb
        · omega
        · rw [hb, tri_append, tri_one]
      have hge : H.length ≤ H'.length + 1 := hbl4.2.2
      simp (maxSteps := 1000000) [go_sem, hlt, c1, hsrc, hap]
      refine andK_intro (by omega) ?_
      obtain ⟨nid, hnid⟩ : ∃ nid, nid = H'.length + 1 := ⟨_, rfl⟩
      rw [← hnid] at hid4 hge ⊢
      refine AWp.loopVc (St := Nat × List Bk) (fun t => [(0, lv 3 i o bs.length), (3, lv 3 nid 0 (s + 1)), (4, .int .i64 s), (5, .int .i64 t.1)])
        (fun t H2 => t.1 ≤ s ∧ t.2.length = s + 1 ∧ H <+: H2 ∧ H2[nid]? = some ⟨tri t.2, true, true⟩ ∧ t.2.take t.1 = l.take t.1 ∧ t.2.drop (t.1 + 1) = l.drop t.1 ∧ ∀ y ∈ l.drop t.1, before x y = true) (fun t => t.1) (s, l ++ [x]) ?_ ?_ ?_
      · simp [upF, Fr.get, Up.refl]
      · refine ⟨by simp, by simp [hll], hbl4.1, hid4, ?_, ?_, ?_⟩
        · simp only; rw [List.take_append_of_le_length (by omega)]
        · simp only; rw [List.drop_eq_nil_of_le (by simp; omega), List.drop_eq_nil_of_le (by omega)]
        · simp only; rw [List.drop_eq_nil_of_le (by omega)]; simp
      · rintro K2 ⟨at_, ys⟩ H2 ⟨hat, hyl, hp2, hb2, htk, hdr, hbf⟩ hK2
        simp only at hat hyl hp2 hb2 htk hdr hbf
        have cx := (h1.pre hp2).bk hbs
        simp only [Bk.cells] at cx
        -- the end of the inner loop: the block is stored
        have fin : ∀ (H3 : Heap) (fr : Fr), H2 <+: H3 → (∀ (r : Nat) (y : Bk), at_ = r + 1 → l[r]? = some y → before x y = false) →
            storeAt H3 nid (at_ * 3) x.cells = some (H3.set nid ⟨tri (ys.set at_ x), true, true⟩) ∧ Bl 3 H (H3.set nid ⟨tri (ys.set at_ x), true, true⟩) nid (tri (sortB (bs.take (s + 1)))) (s + 1) := by
          intro H3 fr hp3 hstop
          have hb3 : H3[nid]? = some ⟨tri ys, true, true⟩ := Same.get (S := fun _ => False) (Same.of_prefix hp3) hb2 (fun h => h)
          have hlt3 := (List.getElem?_eq_some_iff.1 hb3).1
          refine ⟨storeBk hb3 (by omega), ?_, ⟨?_, .inr ?_⟩, hge⟩
          · have hsame : Same (fun j => j = nid) H3 (H3.set nid ⟨tri (ys.set at_ x), true, true⟩) := ⟨by simp, fun j hj hS => List.getElem?_set_ne (fun e => hS e.symm)⟩
            exact ((Same.of_prefix (hp2.trans hp3)).trans hsame).prefix (by intro j hj e; omega)
          · rw [tri_length, sortB_length (s + 1) _ (by simp; omega)]
          · rw [List.getElem?_set_self hlt3, hsn, insR_at (k := at_) (by omega) hbf hstop]
            have e : ys.set at_ x = l.take at_ ++ x :: l.drop at_ := by
              rw [List.set_eq_take_append_cons_drop, if_pos (by omega), htk, hdr]
            rw [e]
        by_cases h0 : at_ = 0
        · subst h0
          obtain ⟨hst, hb5⟩ := fin H2 [] (List.prefix_refl _) (by intro r y e; omega)
          simp only [Bk.cells, Nat.zero_mul] at hst
          refine AWp.draw mixed [(0, false), (1, false), (2, false), (3, false), (4, false), (5, false), (6, false), (7, false), (8, false), (9, false), (10, false), (11, false), (12, false), (13, false)] (by kernel_rfl) ?_
          simp (maxSteps := 1000000) [go_sem, undef, hlt, cx, hst, hw_s]
          exact hK (s + 1, nid) _ _ (by simp only; omega) (by simp [upF, Fr.get, Up.refl]) ⟨by simp only; omega, hb5⟩
        · obtain ⟨r, rfl⟩ : ∃ r, at_ = r + 1 := ⟨at_ - 1, by omega⟩
          have hrl : r < l.length := by omega
          obtain ⟨y, hy⟩ : ∃ y, l[r]? = some y := ⟨l[r], List.getElem?_eq_getElem hrl⟩
          have hyr : ys[r]? = some y := by
            have := congrArg (fun z : List Bk => z[r]?) htk
            simp only [List.getElem?_take, if_pos (show r < r + 1 by omega)] at this
            rw [this]; exact hy
          have cy : ∀ {H3 : Heap}, H2 <+: H3 → cellsAt H3 nid (r * 3) 3 = some [.int .i64 y.a, .int .i64 y.b, .int .i64 y.c] := by
            intro H3 hp3
            have hb3 : H3[nid]? = some ⟨tri ys, true, true⟩ := Same.get (S := fun _ => False) (Same.of_prefix hp3) hb2 (fun h => h)
            have hat3 : At H3 nid 0 (tri ys) := Holds.at ⟨true, hb3⟩
            have := hat3.bk hyr
            simpa [Bk.cells] using this
          have cy2 := cy (List.prefix_refl H2)
          have hr1 : r < s + 1 := by omega
          have hr2 : r < s := by omega
          have hr3 : (r : Int) < (s : Int) + 1 := by omega
          have hr4 : (r : Int) < (s : Int) := by omega
          have hr5 : (0 : Int) < (r : Int) + 1 := by omega
          have hwr : IntKind.i64.wrap (r : Int) = (r : Int) := i64w (by omega) (by omega)
          refine AWp.draw mixed [(0, false), (1, false), (2, false), (3, false), (4, false), (5, false), (6, false), (7, false), (8, false), (9, false), (10, false), (11, false), (12, false), (13, false)] (by kernel_rfl) ?_
          simp (maxSteps := 1000000) [go_sem, hlt, cx, cy2, hr1, hr2, hr3, hr4, hr5, hwr]
          refine l01Before_ok (b := x) (d := y) _ ?_
          intro H3 hp3
          cases hbxy : before x y with
          | false =>
            obtain ⟨hst, hb5⟩ := fin H3 [] hp3 (by
              intro r' y' e hy'
              have : r' = r := by omega
              subst this; rw [hy] at hy'; cases hy'; exact hbxy)
            simp only [Bk.cells] at hst
            have cx3 := (h1.pre (hp2.trans hp3)).bk hbs
            simp only [Bk.cells] at cx3
            simp (maxSteps := 1000000) [go_sem, hp3, hlt, cx3, hst, hw_s, hr1, hr2, hr3, hr4]
            exact andK_intro (by omega) (hK (s + 1, nid) _ _ (by simp only; omega) (by simp [upF, Fr.get, Up.refl]) ⟨by simp only; omega, hb5⟩)
          | true =>
            have hb3 : H3[nid]? = some ⟨tri ys, true, true⟩ := Same.get (S := fun _ => False) (Same.of_prefix hp3) hb2 (fun h => h)
            have hlt3 := (List.getElem?_eq_some_iff.1 hb3).1
            have hst := storeBk (b := y) (s := r + 1) hb3 (by omega)
            simp only [Bk.cells] at hst
            have cy3 := cy hp3
            simp (maxSteps := 1000000) [go_sem, hp3, cy3, hst, hwr, hr1, hr2, hr3, hr4]
            refine andK_intro (by omega) (hK2 (r, ys.set (r + 1) y) _ _ (by simp only; omega) (by simp [upF, Fr.get, Up.refl]) ⟨by simp only; omega, by simp [hyl], ?_, ?_, ?_, ?_, ?_⟩)
            · have hsame : Same (fun j => j = nid) H3 (H3.set nid ⟨tri (ys.set (r + 1) y), true, true⟩) := ⟨by simp, fun j hj hS => List.getElem?_set_ne (fun e => hS e.symm)⟩
              exact ((Same.of_prefix (hp2.trans hp3)).trans hsame).prefix (by intro j hj e; omega)
            · simp only; rw [List.getElem?_set_self hlt3]
            · simp only
              have := congrArg (List.take r) htk
              rw [List.take_take, List.take_take, Nat.min_eq_left (by omega)] at this
              rw [List.take_set_of_le (by omega)]; exact this
            · simp only
              rw [List.drop_eq_getElem_cons (by simp; omega), List.getElem_set_self, List.drop_set_of_lt (by omega), hdr]
              rw [List.drop_eq_getElem_cons hrl]
              congr 1
              rw [List.getElem?_eq_getElem hrl] at hy; exact (Option.some.inj hy).symm
            · simp only
              intro z hz
              rw [List.drop_eq_getElem_cons hrl] at hz
              rcases List.mem_cons.1 hz with rfl | hz
              · rw [List.getElem?_eq_getElem hrl] at hy; rw [Option.some.inj hy]; exact hbxy
              · exact hbf z hz
    · have : s = bs.length := by omega
      subst this
      simp (maxSteps := 1000000) [go_sem]
      rw [List.take_length] at hbl
      refine ⟨_, Up.refl _ _, h H' _ hbl.1 ?_⟩
      have hsl := sortB_length bs.length bs rfl
      have := OwnBlocks.inn (OwnBlocks.of_ol (bs := sortB bs) (by rw [hsl]; exact hbl.2.1) (by omega)) hbl.2.2
      rwa [hsl] at this

end Go.Proofs.Ytkgjdmbmdnmilaa
