/- Part 9 of what the proof of the law FnTradeParts rests on: contracts of functions of the program, for every argument that each names; no statement of the seat is proved here. -/
import Derived.Test.YtkimaohcmcfcnaaGreatFnTradePartsPart8

set_option linter.all false
set_option maxRecDepth 20000
set_option maxHeartbeats 8000000
section
namespace Go.Proofs.YtkimaohcmcfcnaaGreat
open Go.Ab Go.Sort

theorem blocks_lt {H : Heap} {u : Value} {bs : List Bk} (h : BlocksAt H u bs) : ∃ i o, u = lv 3 i o bs.length /\ At H i o (tri bs) /\ bs.length <= 140737488355328 /\ (tri bs ≠ [] -> i < H.length) := by
  obtain ⟨i, o, h1, h2, h3⟩ := h
  refine ⟨i, o, h1, h2, h3, fun hn => ?_⟩
  rcases h2 with e | e
  · exact absurd e hn
  · obtain ⟨blk, hb, _⟩ := cellsAt_inv e
    exact (List.getElem?_eq_some_iff.1 hb).1

theorem lessTells {H0 H : Heap} {w : Value} {y : List Bk} {bid id : Nat} (hb : Holds H0 bid [w]) (hy : BlocksAt H0 w y) (hp : H0 <+: H) (hid : H0.length <= id) : TellsS 31 [] [.pointer (some ⟨bid, 0, none⟩)] (memB y) id H := by
  intro H' x Post hs h
  obtain ⟨i, o, rfl, h1, h2, h3⟩ := blocks_lt hy
  have hbl : bid < H0.length := by obtain ⟨ow, hb⟩ := hb; exact (List.getElem?_eq_some_iff.1 hb).1
  have hb' : Holds H' bid [lv 3 i o y.length] := (hb.pre hp).keepS hs (by omega)
  have hy' : BlocksAt H' (lv 3 i o y.length) y := ⟨i, o, rfl, At.keepS hs (h1.pre hp) (fun hn => by have := h3 hn; omega), h2⟩
  have c1 : cellsAt H' bid 0 1 = some [lv 3 i o y.length] := hb'.cell rfl
  simp only [List.nil_append]
  refine acalls_vc (rs := [.tmp 3]) Tryz.func31 rfl rfl Tryz.ntmps31 rfl rfl ?_
  simp (maxSteps := 1000000) [go_sem, Bk.val]
  have hp2 : H' <+: H' ++ [⟨[.int .i64 x.a, .int .i64 x.b, .int .i64 x.c], true, true⟩] := List.prefix_append _ _
  have c2 := cellsAt_mono hp2 c1
  have hx2 := Holds.last H' [.int .i64 x.a, .int .i64 x.b, .int .i64 x.c]
  have c3 : cellsAt (H' ++ [⟨[.int .i64 x.a, .int .i64 x.b, .int .i64 x.c], true, true⟩]) H'.length 0 3 = some [.int .i64 x.a, .int .i64 x.b, .int .i64 x.c] := by simpa using hx2.cells (n := 3) (o := 0) (by simp)
  simp (maxSteps := 1000000) [go_sem, c2, c3]
  refine slicesContainsB_ok (b := x) (hy'.pre hp2) _ ?_
  intro H2 hp3
  simp (maxSteps := 1000000) [go_sem]
  exact h H2 (hp2.trans hp3)

theorem less_oe {H : Heap} {u w : Value} {x y : List Bk} (hu : BlocksAt H u x) (hw : BlocksAt H w y) (hl : x.length <= 1048576) (Post : Value -> Heap -> Prop)
    (h : ∀ H' v, H <+: H' -> OE 3 H.length H' v (tri (lessB x y)) (lessB x y).length -> Post v H') : ACalls Tryz.prog 17 [u, w] H Post := by
  refine ACalls.addGhost ?_
  have hpg : H <+: H ++ [⟨[], false, false⟩] := List.prefix_append _ _
  have hg : ghostAt (H ++ [⟨[], false, false⟩]) H.length = true := by simp [ghostAt]
  have hgl : (H ++ [(⟨[], false, false⟩ : Blk)]).length = H.length + 1 := by simp
  generalize H ++ [(⟨[], false, false⟩ : Blk)] = HG at *
  refine ACalls.resH ?_
  refine acalls_vc (rs := [.tmp 4]) Tryz.func17 rfl rfl Tryz.ntmps17 rfl rfl ?_
  have hwc : ∃ j q, w = lv 3 j q y.length /\ At H j q (tri y) /\ y.length <= 140737488355328 := hw
  obtain ⟨wj, wq, ew, _, _⟩ := hwc
  subst ew
  simp (maxSteps := 1000000) [go_sem]
  have hp0 : HG <+: HG ++ [⟨[lv 3 wj wq y.length], true, true⟩] := List.prefix_append _ _
  have hx0 := Holds.last HG [lv 3 wj wq y.length]
  have hl0 : (HG ++ [(⟨[lv 3 wj wq y.length], true, true⟩ : Blk)]).length = HG.length + 1 := by simp
  generalize HG ++ [(⟨[lv 3 wj wq y.length], true, true⟩ : Blk)] = H0 at *
  refine cloneB_oe (hu.pre (hpg.trans hp0)) hl _ ?_
  intro H1 v hp1 hv
  have tells : ∀ (id : Nat), H0.length <= id -> TellsS 31 [] [.pointer (some ⟨HG.length, 0, none⟩)] (memB y) id H1 := fun id hid => lessTells hx0 (hw.pre (hpg.trans hp0)) hp1 hid
  have keepG : ∀ {H2 : Heap}, HG <+: H2 -> ghostAt H2 H.length = true := by
    intro H2 hp
    obtain ⟨b, e1, e2, e3⟩ := ghostAt_inv hg
    have := pget hp e1
    simp [ghostAt, this, e2, e3]
  by_cases hx : x = []
  · subst hx
    have empty : ∀ (H2 : Heap), H1 <+: H2 -> ∀ id, H.length <= id -> (ghostAt H2 id = true \/ ownAt H2 id = true) -> Post (lv 3 id 0 0) H2 := by
      intro H2 hp2 id hid hgo
      exact h H2 _ (hpg.trans (hp0.trans (hp1.trans hp2))) ⟨rfl, .inr (.inr ⟨id, hid, rfl, .inl ⟨rfl, hgo⟩⟩)⟩
    simp (maxSteps := 1000000) [go_sem]
    rcases hv.2 with ⟨_, rfl⟩ | ⟨id, _, hid, rfl, hb⟩ | ⟨id, hid, rfl, hb⟩
    · refine ACalls.up (args' := [lv 3 H.length 0 0, .func (.func 31) #[] #[.pointer (some ⟨HG.length, 0, none⟩)]]) ⟨Up.nil _ _ _ _, Up.refl _ _, trivial⟩ ?_
      refine deleteFunc0_ok (fs := []) (cs := [.pointer (some ⟨HG.length, 0, none⟩)]) _ ?_
      intro H2 hp2
      simp (maxSteps := 1000000) [go_sem]
      exact ⟨_, Up.refl _ _, H2, upH.refl _, empty H2 hp2 H.length (by omega) (.inl (keepG (hp0.trans (hp1.trans hp2))))⟩
    · refine ACalls.up (args' := [lv 3 H.length 0 0, .func (.func 31) #[] #[.pointer (some ⟨HG.length, 0, none⟩)]]) ⟨Up.ex0 _ _ _ _ _ _, Up.refl _ _, trivial⟩ ?_
      refine deleteFunc0_ok (fs := []) (cs := [.pointer (some ⟨HG.length, 0, none⟩)]) _ ?_
      intro H2 hp2
      simp (maxSteps := 1000000) [go_sem]
      exact ⟨_, Up.refl _ _, H2, upH.refl _, empty H2 hp2 H.length (by omega) (.inl (keepG (hp0.trans (hp1.trans hp2))))⟩
    · refine deleteFunc0_ok (fs := []) (cs := [.pointer (some ⟨HG.length, 0, none⟩)]) _ ?_
      intro H2 hp2
      have hgo : ghostAt H1 id = true \/ ownAt H1 id = true := by
        rcases hb with ⟨_, e⟩ | e
        · exact e
        · right; simp [ownAt, e]
      have hgo2 : ghostAt H2 id = true \/ ownAt H2 id = true := by
        rcases hgo with e | e
        · left
          obtain ⟨b, e1, e2, e3⟩ := ghostAt_inv e
          have := pget hp2 e1
          simp [ghostAt, this, e2, e3]
        · right
          unfold ownAt at e ⊢
          cases hb1 : H1[id]? with
          | none => simp [hb1] at e
          | some b =>
            have := pget hp2 hb1
            simpa [this, hb1] using e
      simp (maxSteps := 1000000) [go_sem]
      exact ⟨_, Up.refl _ _, H2, upH.refl _, empty H2 hp2 id (by omega) hgo2⟩
  · have hxl : x.length ≠ 0 := by simpa using hx
    obtain ⟨id, hid, rfl, hb⟩ : ∃ id, H0.length <= id /\ v = lv 3 id 0 x.length /\ H1[id]? = some ⟨tri x, true, true⟩ := by
      rcases hv.2 with ⟨e, _⟩ | ⟨id, e, _⟩ | ⟨id, hid, e1, ⟨e, _⟩ | e⟩
      · exact absurd e hxl
      · exact absurd e hxl
      · exact absurd e hxl
      · exact ⟨id, hid, e1, e⟩
    simp (maxSteps := 1000000) [go_sem]
    refine deleteFuncB_ok (fs := []) (cs := [.pointer (some ⟨HG.length, 0, none⟩)]) hb rfl hl (tells id hid) _ ?_
    intro H2 rest hs2 hb2
    have hlt := (List.getElem?_eq_some_iff.1 hb2).1
    have hp3 : H <+: H2.set id ⟨tri (lessB x y), true, true⟩ := ((Same.of_prefix (hpg.trans (hp0.trans hp1))).trans (hs2.trans same_set)).prefix (by have := hpg.length_le; intro j hj e; omega)
    have fin := h _ (lv 3 id 0 (lessB x y).length) hp3 ⟨by rw [tri_length], .inr (.inr ⟨id, by omega, rfl, .inr (List.getElem?_set_self hlt)⟩)⟩
    simp (maxSteps := 1000000) [go_sem]
    exact ⟨_, Up.refl _ _, _, upH.cut hb2, fin⟩

theorem less_ok {H : Heap} {u w : Value} {x y : List Bk} (hu : BlocksAt H u x) (hw : BlocksAt H w y) (hl : x.length <= 1048576) (Post : Value -> Heap -> Prop)
    (h : ∀ H' v, H <+: H' -> BlocksIn H.length H'.length H' v (lessB x y) -> Post v H') : ACalls Tryz.prog 17 [u, w] H Post := by
  refine ACalls.res (less_oe hu hw hl _ fun H' v hp he => ?_)
  have hll : (lessB x y).length <= x.length := List.length_filter_le _ _
  obtain ⟨w, hup, hw⟩ := he.blocks (by omega)
  exact ⟨w, hup, h H' w hp hw⟩

theorem l04Less_oe {H : Heap} {u w : Value} {x y : List Bk} (hu : BlocksAt H u x) (hw : BlocksAt H w y) (hl : x.length <= 1048576) (Post : Value -> Heap -> Prop)
    (h : ∀ H' id, H <+: H' -> H.length <= id -> OL 3 H' id (tri (lessB x y)) (lessB x y).length -> Post (lv 3 id 0 (lessB x y).length) H') : ACalls Tryz.prog 21 [u, w] H Post := by
  obtain ⟨i, o, rfl, h1, h2⟩ := hu
  refine ACalls.res ?_
  refine acalls_vc (rs := [.tmp 4]) Tryz.func21 rfl rfl Tryz.ntmps21 rfl rfl ?_
  simp (maxSteps := 1000000) [go_sem]
  have ow := hw.one
  refine AWp.loopVc (St := Nat × Nat) (fun s => [(0, lv 3 i o x.length), (1, w), (5, lv 3 s.2 0 (lessB (x.take s.1) y).length), (6, .int .i64 s.1)])
    (fun s H' => s.1 <= x.length /\ Bl 3 H H' s.2 (tri (lessB (x.take s.1) y)) (lessB (x.take s.1) y).length) (fun s => x.length - s.1) (0, H.length) ?_ ?_ ?_
  · simp [upF, Fr.get, Up.refl, lessB, Up.ex0]
  · exact ⟨by simp, by simpa [lessB, tri] using Bl.nil 3 H⟩
  · rintro K ⟨s, id⟩ H' ⟨hs, hbl⟩ hK
    simp only at hs hbl
    by_cases hlt : s < x.length
    · have hw_s : IntKind.i64.wrap ((s : Int) + 1) = (s : Int) + 1 := i64w (by omega) (by omega)
      have c0 : ∀ {H2 : Heap}, H <+: H2 -> cellsAt H2 i (o + s * 3) 3 = some x[s].cells := fun hp => (h1.pre hp).bk (List.getElem?_eq_getElem hlt)
      have htk := List.take_succ_eq_append_getElem hlt
      have c1 := c0 hbl.1
      generalize x[s] = b at *
      simp only [Bk.cells] at c1 c0
      have hll : (lessB (x.take s) y).length <= s := Nat.le_trans (List.length_filter_le _ _) (by simp; omega)
      simp (maxSteps := 1000000) [go_sem, hlt, c1]
      refine l04Member_ok (b := b) (hw.pre hbl.1) _ ?_
      intro H2 hp2
      have hbl2 := hbl.pre hp2
      have c2 := c0 (hbl.1.trans hp2)
      cases hm : memB y b with
      | true =>
        have e : lessB (x.take (s + 1)) y = lessB (x.take s) y := by rw [htk]; simp [lessB, hm]
        simp (maxSteps := 1000000) [go_sem, hw_s]
        refine hK (s + 1, id) _ _ (by simp only; omega) ?_ ⟨by simp only; omega, by simp only; rw [e]; exact hbl2⟩
        simp only [e]
        simp [upF, Fr.get, Up.refl]
      | false =>
        have e : lessB (x.take (s + 1)) y = lessB (x.take s) y ++ [b] := by rw [htk]; simp [lessB, hm]
        obtain ⟨hsrc, H4, hap, hbl4⟩ := hbl2.push (xs := [.int .i64 b.a, .int .i64 b.b, .int .i64 b.c]) (by omega) rfl
        have e2 : tri (lessB (x.take s) y) ++ [.int .i64 b.a, .int .i64 b.b, .int .i64 b.c] = tri (lessB (x.take (s + 1)) y) := by rw [e, tri_append]; rfl
        rw [e2] at hbl4
        have e3 : (lessB (x.take (s + 1)) y).length = (lessB (x.take s) y).length + 1 := by rw [e]; simp
        generalize (lessB (x.take s) y).length = n at *
        simp (maxSteps := 1000000) [go_sem, hlt, c2, hsrc, hap, hw_s]
        refine andK_intro (by omega) (hK (s + 1, H2.length + 1) _ _ (by simp only; omega) ?_ ⟨by simp only; omega, by simp only; rw [e3]; exact hbl4⟩)
        simp only [e3]
        simp [upF, Fr.get, Up.refl]
    · have : s = x.length := by omega
      subst this
      rw [List.take_length] at hbl
      simp (maxSteps := 1000000) [go_sem]
      exact ⟨_, Up.refl _ _, h H' id hbl.1 hbl.2.2 hbl.2.1⟩

theorem l04Less_ok {H : Heap} {u w : Value} {x y : List Bk} (hu : BlocksAt H u x) (hw : BlocksAt H w y) (hl : x.length <= 1048576) (Post : Value -> Heap -> Prop)
    (h : ∀ H' v, H <+: H' -> BlocksIn H.length H'.length H' v (lessB x y) -> Post v H') : ACalls Tryz.prog 21 [u, w] H Post := by
  have hll : (lessB x y).length <= x.length := List.length_filter_le _ _
  refine l04Less_oe hu hw hl _ fun H' id hp hid ho => h H' _ hp ⟨id, ⟨rfl, ?_, by omega⟩, fun _ => ⟨hid, ho.lt⟩⟩
  rcases ho.2 with ⟨e, _⟩ | e
  · left; exact List.eq_nil_of_length_eq_zero e
  · right; exact e

end Go.Proofs.YtkimaohcmcfcnaaGreat
end

section
namespace Go.Proofs.YtkimaohcmcfcnaaGreat
open Go.Ab Go.Sort

noncomputable def rDiff (p : Int) (x : List Bk) (q : Int) (y : List Bk) : (Int × List Bk × List Bk) × Int :=
  if sysB p x && sysB q y then (if p = q /\ samePairs x y = true then ((p, lessB x y, lessB y x), 0) else ((0, [], []), 5)) else ((0, [], []), 1)
theorem less_sort {p : Int} {x : List Bk} (h : IsSys p x) (y : List Bk) : sortB (lessB x y) = lessB x y := by
  have hs : x.Pairwise (fun a b => before b a = false) := by have := sortB_sorted _ x rfl; rwa [sys_sort h] at this
  exact (sort_uniq (List.Perm.refl _) (hs.filter _)).symm

theorem specDiff_ok {H : Heap} {u w : Value} {p q : Int} {x y : List Bk} (hu : BlocksAt H u x) (hl : x.length <= 1048576) (hw : BlocksAt H w y) (hl' : y.length <= 1048576) (Post : Value -> Heap -> Prop)
    (h : ∀ H' v z, H <+: H' -> TradeIn H.length H'.length H' v z (rDiff p x q y).1.2.1 (rDiff p x q y).1.2.2 -> Post (.tuple #[tradeV (rDiff p x q y).1.1 v z, .int .i64 (rDiff p x q y).2]) H') : ACalls Tryz.prog 49 [sysV p u, sysV q w] H Post := by
  have ou := hu.one
  have ow := hw.one
  refine ACalls.res ?_
  refine acalls_vc (rs := [.cell 4 26, .tmp 5]) Tryz.func49 rfl rfl Tryz.ntmps49 rfl rfl ?_
  simp (maxSteps := 1000000) [go_sem, sysV, ou, ow]
  have hp0 : H <+: H ++ [⟨[.int .i64 p, u], true, true⟩, ⟨[.int .i64 q, w], true, true⟩, ⟨[.int .i64 0, .slice none 0 0, .slice none 0 0], true, true⟩] := List.prefix_append _ _
  have hx0 : Holds (H ++ [(⟨[.int .i64 p, u], true, true⟩ : Blk), ⟨[.int .i64 q, w], true, true⟩, ⟨[.int .i64 0, .slice none 0 0, .slice none 0 0], true, true⟩]) H.length [.int .i64 p, u] := ⟨true, by simp⟩
  have hy0 : Holds (H ++ [(⟨[.int .i64 p, u], true, true⟩ : Blk), ⟨[.int .i64 q, w], true, true⟩, ⟨[.int .i64 0, .slice none 0 0, .slice none 0 0], true, true⟩]) (H.length + 1) [.int .i64 q, w] := ⟨true, by simp⟩
  have hb0 : (H ++ [(⟨[.int .i64 p, u], true, true⟩ : Blk), ⟨[.int .i64 q, w], true, true⟩, ⟨[.int .i64 0, .slice none 0 0, .slice none 0 0], true, true⟩])[H.length + 2]? = some ⟨[.int .i64 0, .slice none 0 0, .slice none 0 0], true, true⟩ := by simp
  have hlen : (H ++ [(⟨[.int .i64 p, u], true, true⟩ : Blk), ⟨[.int .i64 q, w], true, true⟩, ⟨[.int .i64 0, .slice none 0 0, .slice none 0 0], true, true⟩]).length = H.length + 3 := by simp
  generalize H ++ [(⟨[.int .i64 p, u], true, true⟩ : Blk), ⟨[.int .i64 q, w], true, true⟩, ⟨[.int .i64 0, .slice none 0 0, .slice none 0 0], true, true⟩] = H0 at hp0 hx0 hy0 hb0 hlen ⊢
  have bad : ∀ (H' : Heap) (c : Int), H0 <+: H' -> rDiff p x q y = ((0, [], []), c) ->
      storeAt H' (H.length + 2) 0 [.int .i64 0, .slice none 0 0, .slice none 0 0] = some (H'.set (H.length + 2) ⟨[.int .i64 0, .slice none 0 0, .slice none 0 0], true, true⟩) /\
      cellsAt (H'.set (H.length + 2) ⟨[.int .i64 0, .slice none 0 0, .slice none 0 0], true, true⟩) (H.length + 2) 0 3 = some [.int .i64 0, .slice none 0 0, .slice none 0 0] /\
      ∃ v', Up (H'.set (H.length + 2) ⟨[.int .i64 0, .slice none 0 0, .slice none 0 0], true, true⟩) (.tuple #[.agg #[.int .i64 0, .slice none 0 0, .slice none 0 0], .int .i64 c]) v' /\ Post v' (H'.set (H.length + 2) ⟨[.int .i64 0, .slice none 0 0, .slice none 0 0], true, true⟩) := by
    intro H' c hp hr
    obtain ⟨q1, q2, q3, q4⟩ := put3 (cs := [.int .i64 0, .slice none 0 0, .slice none 0 0]) hp0 (show H.length <= H.length + 2 by omega) hb0 rfl hp rfl rfl
    have fin := h _ (lv 3 0 0 0) (lv 3 0 0 0) q3 (by rw [hr]; exact TradeIn.nil (by rw [List.length_set]; have := hp.length_le; omega) _)
    rw [hr] at fin
    exact ⟨q1, q2, _, Up.tuple (ys := #[tradeV 0 (lv 3 0 0 0) (lv 3 0 0 0), .int .i64 c]) ⟨zeroTr, Up.refl _ _, trivial⟩, fin⟩
  refine l01Is' (hu.pre hp0) hl _ ?_
  intro H1 hp1
  obtain ⟨d0, d1, d2⟩ := (hx0.pre hp1).sys
  obtain ⟨e0, e1, e2⟩ := (hy0.pre hp1).sys
  cases hs : sysB p x with
  | false =>
    obtain ⟨q1, q2, fin⟩ := bad H1 1 hp1 (by simp [rDiff, hs])
    simp (maxSteps := 1000000) [go_sem, undef, q1, q2]
    exact fin
  | true =>
    simp (maxSteps := 1000000) [go_sem, e0]
    refine l01Is' (hw.pre (hp0.trans hp1)) hl' _ ?_
    intro H2 hp2
    have hp12 := hp1.trans hp2
    obtain ⟨d0, d1, d2⟩ := (hx0.pre hp12).sys
    obtain ⟨e0, e1, e2⟩ := (hy0.pre hp12).sys
    cases hs2 : sysB q y with
    | false =>
      obtain ⟨q1, q2, fin⟩ := bad H2 1 hp12 (by simp [rDiff, hs, hs2])
      simp (maxSteps := 1000000) [go_sem, undef, q1, q2]
      exact fin
    | true =>
      have hS := sysB_iff.1 hs
      have hT := sysB_iff.1 hs2
      by_cases hpq : p = q
      · subst hpq
        simp (maxSteps := 1000000) [go_sem, undef, d0, d1, d2, e0, e1, e2]
        refine l04Same_ok (hu.pre (hp0.trans hp12)) (hw.pre (hp0.trans hp12)) hS.good15 hT.good15 hl hl' _ ?_
        intro H3 hp3
        have hp13 := hp12.trans hp3
        obtain ⟨d0, d1, d2⟩ := (hx0.pre hp13).sys
        obtain ⟨e0, e1, e2⟩ := (hy0.pre hp13).sys
        cases hm : samePairs x y with
        | false =>
          obtain ⟨q1, q2, fin⟩ := bad H3 5 hp13 (by simp [rDiff, hs, hs2, hm])
          simp (maxSteps := 1000000) [go_sem, undef, q1, q2]
          exact fin
        | true =>
          have hr : rDiff p x p y = ((p, lessB x y, lessB y x), 0) := by simp [rDiff, hs, hs2, hm]
          simp (maxSteps := 1000000) [go_sem, undef]
          refine AWp.draw mixed [(0, false), (1, false), (2, false), (3, false), (4, false), (5, false), (7, false), (8, false), (9, false), (10, false), (6, true), (11, true), (12, false), (13, false), (14, false)] (by kernel_rfl) ?_
          simp (maxSteps := 1000000) [go_sem, undef, d0, d1, d2, e0, e1, e2]
          have hlx : (lessB x y).length <= x.length := List.length_filter_le _ _
          have hly : (lessB y x).length <= y.length := List.length_filter_le _ _
          refine l04Less_ok (hu.pre (hp0.trans hp13)) (hw.pre (hp0.trans hp13)) hl _ ?_
          intro H4 v hp4 hv
          obtain ⟨d0, d1, d2⟩ := (hx0.pre (hp13.trans hp4)).sys
          obtain ⟨e0, e1, e2⟩ := (hy0.pre (hp13.trans hp4)).sys
          simp (maxSteps := 1000000) [go_sem, undef, hp4, d0, d1, d2, e0, e1, e2]
          refine l04Less_ok (hw.pre (hp0.trans (hp13.trans hp4))) (hu.pre (hp0.trans (hp13.trans hp4))) hl' _ ?_
          intro H5 z hp5 hz
          simp (maxSteps := 1000000) [go_sem, undef, hp5]
          refine l04Made_ok (hv.read.pre hp5) hz.read (by omega) (by omega) _ ?_
          intro H6 v' z' hp6 hv'
          rw [less_sort hS, less_sort hT] at hv'
          obtain ⟨a1, a2⟩ := hv'.read.one
          obtain ⟨q1, q2, q3, q4⟩ := put3 (cs := [.int .i64 p, v', z']) hp0 (show H.length <= H.length + 2 by omega) hb0 rfl (hp13.trans (hp4.trans (hp5.trans hp6))) rfl (by simp [a1, a2, one_int])
          have hle1 := hp13.length_le
          have hle2 := hp4.length_le
          have hle3 := hp5.length_le
          have fin := h _ v' z' q3 (by rw [hr, List.length_set]; exact (hv'.keep q4 (fun j hj e => by have := hj.1; omega)).wider (by omega))
          rw [hr] at fin
          simp (maxSteps := 1000000) [go_sem, undef, tradeV, hp6, q1, q2]
          exact ⟨_, Up.refl _ _, fin⟩
      · have hpq' : (p == q) = false := by simpa using hpq
        have hpq2 : (p != q) = true := by simpa using hpq
        obtain ⟨q1, q2, fin⟩ := bad H2 5 hp12 (by simp [rDiff, hs, hs2, hpq])
        simp (maxSteps := 1000000) [go_sem, undef, d0, d1, d2, e0, e1, e2, hpq, hpq', hpq2, q1, q2]
        exact fin

end Go.Proofs.YtkimaohcmcfcnaaGreat
end

section
namespace Go.Proofs.YtkimaohcmcfcnaaGreat
open Go.Ab Go.Sort

theorem sortB_len (bs : List Bk) : (sortB bs).length = bs.length := (sortB_perm _ bs rfl).length_eq
end Go.Proofs.YtkimaohcmcfcnaaGreat
end

section
namespace Go.Proofs.YtkimaohcmcfcnaaGreat
open Go.Ab Go.Sort

theorem emptyAppend {e L : Nat} {H : Heap} {id : Nat} (hL : L <= id) (hb : H[id]? = some ⟨[], true, true⟩) (he : 0 < e) {m : Nat} {news : List Value} (hn : news.length = m * e) :
  ∃ v' H', appendH H e (.slice (some ⟨id, 0, none⟩) 0 0) m news = some (v', H') /\ OE e L H' v' news m /\ H <+: H' := by
 have hid := (List.getElem?_eq_some_iff.1 hb).1
 by_cases hm : m = 0
 ·subst hm
  have : news = [] := List.eq_nil_of_length_eq_zero (by simpa using hn)
  subst this
  exact ⟨_, H, by simp [appendH], OE.empty hL hb, List.prefix_refl _⟩
 ·have hc : cellsAt H id 0 0 = some [] := by rw [cellsAt_of hb rfl (by simp)]; simp
  exact ⟨lv e H.length 0 m, H ++ [⟨news, true, true⟩], by simp [appendH, hm, hc], ⟨hn, .inr (.inr ⟨H.length, by omega, rfl, .inr (by simp)⟩)⟩, List.prefix_append _ _⟩

end Go.Proofs.YtkimaohcmcfcnaaGreat
end

section
namespace Go.Ab

theorem Bl.pushS {e : Nat} {H H' : Heap} {id n : Nat} {cs xs : List Value} (h : Bl e H H' id cs n) (he : 0 < e) (hx : xs.length = e) :
    cellsAt (H' ++ [⟨xs, true, true⟩]) H'.length 0 e = some xs /\ ∃ H3, appendH (H' ++ [⟨xs, true, true⟩]) e (lv e id 0 n) 1 xs = some (lv e (H'.length + 1) 0 (n + 1), H3) /\ Bl e H H3 (H'.length + 1) (cs ++ xs) (n + 1) /\ Same (fun j => j = id) H' H3 := by
  obtain ⟨h1, H3, h2, h3, h4, h5⟩ := h.2.1.push he hx
  refine ⟨h1, H3, h2, ⟨((Same.of_prefix h.1).trans h4).prefix (by have := h.2.2; omega), h3, ?_⟩, h4⟩
  have := h.1.length_le
  omega

end Go.Ab
namespace Go.Proofs.YtkimaohcmcfcnaaGreat
open Go.Ab Go.Sort

end Go.Proofs.YtkimaohcmcfcnaaGreat
end

section
namespace Go.Ab

theorem AWp.regCut {P : Program} {N : Nat} {H : Heap} {fr : Fr} {Q : Exit -> Fr -> Heap -> Prop} {St : Type} {c : Code} (N' : St -> Fr) (E : St -> Heap -> Prop)
    (hx : ∀ Q' : Exit -> Fr -> Heap -> Prop, (∀ (s : St) (fr' : Fr) (H' : Heap), upF H' (N' s ++ fr) fr' -> E s H' -> Q' .normal fr' H') -> AWp P N c Q' fr H)
    (hy : ∀ (s : St) (H' : Heap), E s H' -> Q .normal (N' s ++ fr) H') : AWp P N c Q fr H := by
  let Q1 : Exit -> Fr -> Heap -> Prop := fun e f h => match e with
    | .normal => ∃ s, upF h (N' s ++ fr) f /\ E s h
    | _ => False
  refine AWp.weak (Q := Q1) ?_ (hx Q1 fun s f h h1 h2 => ⟨s, h1, h2⟩)
  intro e f h hq
  cases e with
  | normal => obtain ⟨s, h1, h2⟩ := hq; exact ⟨_, h1, hy s h h2⟩
  | _ => exact hq.elim

theorem boxLate {Hz Hn : Heap} {id : Nat} {zs cs : List Value} (hz : Hz[id]? = some ⟨zs, true, true⟩) (hp : Hz <+: Hn) (hl : zs.length = cs.length) (ho : cs.all Value.oneCell' = true) :
    storeAt Hn id 0 cs = some (Hn.set id ⟨cs, true, true⟩) /\ Holds (Hn.set id ⟨cs, true, true⟩) id cs /\ Same (fun j => j = id) Hn (Hn.set id ⟨cs, true, true⟩) /\ (Hn.set id ⟨cs, true, true⟩).length = Hn.length := by
  have hb := pget hp hz
  refine ⟨?_, ⟨true, List.getElem?_set_self (List.getElem?_eq_some_iff.1 hb).1⟩, same_set, by simp⟩
  rw [storeAt_of hb rfl rfl (by simp [hl]) ho]
  congr 3
  simp [over, hl]

end Go.Ab
end

section
namespace Go.Proofs.YtkimaohcmcfcnaaGreat
open Go.Ab Go.Sort

noncomputable def addB (acc : List Bk) (b : Bk) : List Bk := if memB acc b then acc else acc ++ [b]
def turn (v : Nat) (b : Bk) (i : Nat) : Bk := blk ((b.a + i).tmod v) ((b.b + i).tmod v) ((b.c + i).tmod v)
noncomputable def turnK (v : Nat) (acc : List Bk) (b : Bk) (k : Nat) : List Bk := (List.range k).foldl (fun acc i => addB acc (turn v b i)) acc
noncomputable def turnL (v : Nat) (acc fam : List Bk) : List Bk := fam.foldl (fun acc b => turnK v acc b v) acc

theorem addB_len (acc : List Bk) (b : Bk) : (addB acc b).length <= acc.length + 1 := by unfold addB; split <;> simp
theorem turnK_succ (v : Nat) (acc : List Bk) (b : Bk) (k : Nat) : turnK v acc b (k + 1) = addB (turnK v acc b k) (turn v b k) := by
  simp [turnK, List.range_succ, List.foldl_append]
theorem turnK_zero (v : Nat) (acc : List Bk) (b : Bk) : turnK v acc b 0 = acc := rfl
theorem turnK_len (v : Nat) (acc : List Bk) (b : Bk) (k : Nat) : (turnK v acc b k).length <= acc.length + k := by
  induction k with
  | zero => simp [turnK_zero]
  | succ k ih => rw [turnK_succ]; have := addB_len (turnK v acc b k) (turn v b k); omega
def small (b : Bk) : Prop := (0 <= b.a /\ b.a <= 900) /\ (0 <= b.b /\ b.b <= 900) /\ (0 <= b.c /\ b.c <= 900)
theorem tmod_in {x : Int} {v : Nat} (hx : 0 <= x) (hv : 1 <= v /\ v <= 15) : 0 <= x.tmod v /\ x.tmod v <= 1000 := by
  have h1 := Int.tmod_nonneg (v : Int) hx
  have h2 := Int.tmod_lt_of_pos x (show (0 : Int) < v by omega)
  omega

end Go.Proofs.YtkimaohcmcfcnaaGreat
end

section
namespace Go.Proofs.YtkimaohcmcfcnaaGreat
open Go.Ab Go.Sort

theorem memB_take_succ {acc : List Bk} {c : Bk} {k : Nat} (h : k < acc.length) : memB (acc.take (k + 1)) c = (memB (acc.take k) c || decide (acc[k] = c)) := by
  rw [List.take_succ_eq_append_getElem h]
  simp only [memB, List.mem_append, List.mem_singleton]
  by_cases h1 : c ∈ acc.take k
  · simp [h1]
  · by_cases h2 : acc[k] = c
    · simp [h1, h2]
    · have : ¬ c = acc[k] := fun e => h2 e.symm
      simp [h1, h2, this]

theorem l01Turned_ok {H0 H : Heap} {id v : Nat} {b : Bk} {acc : List Bk} (hv : 1 <= v /\ v <= 15) (hg : small b) (hl : acc.length <= 1000) (hbl : Bl 3 H0 H id (tri acc) acc.length) (Post : Value -> Heap -> Prop)
    (h : ∀ H' id', Bl 3 H0 H' id' (tri (turnK v acc b v)) (turnK v acc b v).length -> Post (lv 3 id' 0 (turnK v acc b v).length) H') :
    ACalls Tryz.prog 81 [lv 3 id 0 acc.length, .int .i64 v, .int .i64 b.a, .int .i64 b.b, .int .i64 b.c] H Post := by
  refine acalls_vc (rs := [.tmp 10]) Tryz.func81 rfl rfl Tryz.ntmps81 rfl rfl ?_
  simp (maxSteps := 1000000) [go_sem]
  have hv0 : (v : Int) ≠ 0 := by omega
  have hv00 : v ≠ 0 := by omega
  obtain ⟨⟨ga1, ga2⟩, ⟨gb1, gb2⟩, ⟨gc1, gc2⟩⟩ := hg
  refine AWp.loopVc (St := Nat × Nat × List Bk) (fun t => [(0, lv 3 t.2.1 0 t.2.2.length), (1, .int .i64 v), (2, .int .i64 b.a), (3, .int .i64 b.b), (4, .int .i64 b.c), (11, .int .i64 t.1)])
    (fun t H2 => t.1 <= v /\ t.2.2 = turnK v acc b t.1 /\ Bl 3 H0 H2 t.2.1 (tri t.2.2) t.2.2.length) (fun t => v - t.1) (0, id, acc) ?_ ?_ ?_
  · simp [upF, Fr.get, Up.refl]
  · exact ⟨by simp, by simp [turnK_zero], hbl⟩
  · rintro K2 ⟨t, id2, acc2⟩ H2 ⟨ht, hacc2, hbl2⟩ hK2
    simp only at ht hacc2 hbl2
    have hl2 : acc2.length <= 1015 := by
      have := turnK_len v acc b t
      rw [<- hacc2] at this
      omega
    by_cases htv : t < v
    · have hw_t : IntKind.i64.wrap ((t : Int) + 1) = (t : Int) + 1 := i64w (by omega) (by omega)
      have wa : IntKind.i64.wrap (b.a + t) = b.a + t := i64w (by omega) (by omega)
      have wb : IntKind.i64.wrap (b.b + t) = b.b + t := i64w (by omega) (by omega)
      have wc : IntKind.i64.wrap (b.c + t) = b.c + t := i64w (by omega) (by omega)
      have ma := tmod_in (x := b.a + t) (by omega) hv
      have mb := tmod_in (x := b.b + t) (by omega) hv
      have mc := tmod_in (x := b.c + t) (by omega) hv
      obtain ⟨c, hc⟩ : ∃ c, blk ((b.a + t).tmod v) ((b.b + t).tmod v) ((b.c + t).tmod v) = c := ⟨_, rfl⟩
      have hct : turn v b t = c := hc
      simp (maxSteps := 1000000) [go_sem, htv]
      refine AWp.regCut (St := Nat) (fun z => [(12, .pointer (some ⟨z, 0, none⟩)), (13, .bool false)]) (fun z H3 => H2 <+: H3 /\ Holds H3 z c.cells) ?_ ?_
      · intro Q' hQ'
        refine AWp.drawF mixed [16] [(0, false), (1, false), (2, false), (3, false), (4, false), (5, false), (6, false), (7, false), (8, false), (9, false), (10, false), (11, false), (12, false), (13, false), (14, false), (15, false), (16, true), (17, false), (18, false)] (.one 0 false (.one 1 false (.one 2 false (.one 3 false (.one 4 false (.one 5 false (.one 6 false (.one 7 false (.one 8 false (.one 9 false (.one 10 false (.one 11 false (.one 12 false (.one 13 false (.one 14 false (.two 15 false (.one 16 true (.one 17 false (.one 18 false .nil))) 16 (.one 15 false (.one 17 false (.one 18 false .nil))))))))))))))))))) (by kernel_rfl) ?_
        simp (maxSteps := 1000000) [go_sem, wa, wb, wc, hv0, hv00]
        refine vT_two ?_ ?_
        · simp (maxSteps := 1000000) [go_sem]
          refine l01Block_ok ma mb mc _ ?_
          intro H3 hp3
          rw [hc]
          simp (maxSteps := 1000000) [go_sem, Bk.val]
          refine hQ' H3.length _ _ (by simp [upF, Fr.get, Up.refl]) ⟨hp3.trans (List.prefix_append _ _), Holds.last _ _⟩
        · simp (maxSteps := 1000000) [go_sem, wa, wb, wc, hv0, hv00]
          have hpz : H2 <+: H2 ++ [⟨[.int .i64 0, .int .i64 0, .int .i64 0], true, true⟩] := List.prefix_append _ _
          have hzz : (H2 ++ [(⟨[.int .i64 0, .int .i64 0, .int .i64 0], true, true⟩ : Blk)])[H2.length]? = some ⟨[.int .i64 0, .int .i64 0, .int .i64 0], true, true⟩ := by simp
          generalize H2 ++ [(⟨[.int .i64 0, .int .i64 0, .int .i64 0], true, true⟩ : Blk)] = HZ at hpz hzz ⊢
          refine l01Block_ok ma mb mc _ ?_
          intro H3 hp3
          rw [hc]
          obtain ⟨k1, k2, k3, k4⟩ := boxLate (cs := c.cells) hzz hp3 rfl rfl
          simp only [Bk.cells] at k1
          simp (maxSteps := 1000000) [go_sem, Bk.val, k1]
          refine hQ' H2.length _ _ (by simp [upF, Fr.get, Up.refl]) ⟨?_, k2⟩
          exact ((Same.of_prefix (hpz.trans hp3)).trans k3).prefix (by rintro j hj rfl; omega)
      · rintro z H3 ⟨hp3, hz⟩
        obtain ⟨z0, z1, z2, z3⟩ := hz.bk
        have hbl3 := hbl2.pre hp3
        have hat : At H3 id2 0 (tri acc2) := hbl3.2.1.at
        have hacc3 : turnK v acc b (t + 1) = addB acc2 c := by rw [turnK_succ, hct, <- hacc2]
        simp (maxSteps := 1000000) [go_sem, z0]
        refine AWp.loopVc (St := Nat) (fun k => [(0, lv 3 id2 0 acc2.length), (1, .int .i64 v), (2, .int .i64 b.a), (3, .int .i64 b.b), (4, .int .i64 b.c), (11, .int .i64 t), (12, .pointer (some ⟨z, 0, none⟩)), (13, .bool (memB (acc2.take k) c)), (14, .int .i64 k)])
          (fun k H4 => k <= acc2.length /\ H4 = H3) (fun k => acc2.length - k) 0 ?_ ?_ ?_
        · simp [upF, Fr.get, Up.refl, memB]
        · exact ⟨by omega, rfl⟩
        · rintro K3 k H4 ⟨hk, rfl⟩ hK3
          by_cases hkl : k < acc2.length
          · have hbs : acc2[k]? = some acc2[k] := List.getElem?_eq_getElem hkl
            have c1 := hat.bk hbs
            simp only [Bk.cells, Nat.zero_add] at c1
            have hw_k : IntKind.i64.wrap ((k : Int) + 1) = (k : Int) + 1 := i64w (by omega) (by omega)
            have hsucc := memB_take_succ (c := c) hkl
            simp (maxSteps := 1000000) [go_sem, hkl]
            refine AWp.draw mixed [(0, false), (1, false), (2, false), (3, false), (4, false), (5, false), (6, false), (7, false), (8, false), (9, false)] (by kernel_rfl) ?_
            cases hm : memB (acc2.take k) c with
            | true =>
              rw [hm] at hsucc
              simp (maxSteps := 1000000) [go_sem, hw_k]
              exact hK3 (k + 1) _ _ (by omega) (by simp [upF, Fr.get, Up.refl, hsucc]) ⟨by omega, rfl⟩
            | false =>
              rw [hm, Bool.false_or] at hsucc
              simp (maxSteps := 1000000) [go_sem, hw_k, hkl, z0, c1]
              have he : decide (acc2[k] = c) = (decide (acc2[k].a = c.a) && (decide (acc2[k].b = c.b) && decide (acc2[k].c = c.c))) := by
                rw [Bool.eq_iff_iff]; simp only [decide_eq_true_eq, Bool.and_eq_true]; exact Bk.eq3 _ _
              rw [he] at hsucc
              exact hK3 (k + 1) _ _ (by omega) (by simp [upF, Fr.get, Up.refl, hsucc]) ⟨by omega, rfl⟩
          · have : k = acc2.length := by omega
            subst this
            rw [List.take_length] at *
            cases hm : memB acc2 c with
            | true =>
              simp (maxSteps := 1000000) [go_sem, hw_t]
              refine hK2 (t + 1, id2, acc2) _ _ (by simp only; omega) (by simp [upF, Fr.get, Up.refl]) ⟨by simp only; omega, ?_, hbl3⟩
              simp [hacc3, addB, hm]
            | false =>
              obtain ⟨hsrc, H5, hap, hbl5⟩ := hbl3.push (xs := c.cells) (by omega) rfl
              simp only [Bk.cells] at hsrc hap hbl5
              simp (maxSteps := 1000000) [go_sem, hw_t, z0, hsrc, hap]
              refine andK_intro (by omega) (hK2 (t + 1, H4.length + 1, acc2 ++ [c]) _ _ (by simp only; omega) (by simp [upF, Fr.get, Up.refl]) ⟨by simp only; omega, by simp [hacc3, addB, hm], ?_⟩)
              simp only [List.length_append, List.length_singleton, tri_append, tri_one, Bk.cells]
              exact hbl5
    · have : t = v := by omega
      subst this
      simp (maxSteps := 1000000) [go_sem]
      rw [hacc2] at hbl2 ⊢
      exact h _ _ hbl2

end Go.Proofs.YtkimaohcmcfcnaaGreat
end

section
namespace Go.Proofs.YtkimaohcmcfcnaaGreat
open Go.Ab Go.Sort

theorem upTo_asc (lo hi : Nat) : (upTo lo hi).Pairwise (· < ·) := List.pairwise_lt_range'
theorem asc_triples (v : Nat) : Asc (triples v) := by
  unfold Asc triples trip0
  rw [List.pairwise_flatMap]
  refine ⟨fun a _ => ?_, (upTo_asc 0 v).imp fun {a a'} h => ?_⟩
  · unfold trip1
    rw [List.pairwise_flatMap]
    refine ⟨fun b _ => ?_, (upTo_asc _ v).imp fun {b b'} h => ?_⟩
    · unfold trip2
      rw [List.pairwise_map]
      refine (upTo_asc _ v).imp fun {c c'} h => ?_
      rw [before_iff]; exact .inr ⟨rfl, .inr ⟨rfl, by simp only; omega⟩⟩
    · intro x hx y hy
      simp only [trip2, List.mem_map] at hx hy
      obtain ⟨c, _, rfl⟩ := hx
      obtain ⟨c', _, rfl⟩ := hy
      rw [before_iff]; exact .inr ⟨rfl, .inl (by simp only; omega)⟩
  · intro x hx y hy
    simp only [trip1, trip2, List.mem_flatMap, List.mem_map] at hx hy
    obtain ⟨b, _, c, _, rfl⟩ := hx
    obtain ⟨b', _, c', _, rfl⟩ := hy
    rw [before_iff]; exact .inl (by simp only; omega)
theorem triples_sort (v : Nat) (P : Bk -> Bool) : sortB ((triples v).filter P) = (triples v).filter P := sortB_asc ((asc_triples v).filter _)

def affB (b : Bk) : Bool := decide ((b.a / 3 + b.b / 3 + b.c / 3) % 3 = 0) && decide ((b.a + b.b + b.c) % 3 = 0)
def xorB (b : Bk) : Bool := IntKind.i64.wrap ↑(BitVec.ofInt 64 (IntKind.i64.wrap ↑(BitVec.ofInt 64 (IntKind.i64.wrap (b.a + 1)) ^^^ BitVec.ofInt 64 (IntKind.i64.wrap (b.b + 1))).toNat) ^^^ BitVec.ofInt 64 (IntKind.i64.wrap (b.c + 1))).toNat == 0

theorem aff_q1 {x y z : Nat} (hx : x < 9) (hy : y < 9) (hz : z < 9) :
    ((IntKind.i64.wrap (IntKind.i64.wrap (IntKind.i64.wrap (x / 3 : Int) + IntKind.i64.wrap (y / 3 : Int)) + IntKind.i64.wrap (z / 3 : Int))).tmod 3 == 0) = decide (((x : Int) / 3 + y / 3 + z / 3) % 3 = 0) := by
  rw [i64w (n := (x : Int) / 3) (by omega) (by omega), i64w (n := (y : Int) / 3) (by omega) (by omega), i64w (n := (z : Int) / 3) (by omega) (by omega), i64w (n := (x : Int) / 3 + y / 3) (by omega) (by omega), i64w (by omega) (by omega),
    Int.tmod_eq_emod_of_nonneg (by omega)]
  rfl
def nmSingle : List UInt8 := [115, 105, 110, 103, 108, 101]
def nmFano : List UInt8 := [102, 97, 110, 111]
def nmAffine : List UInt8 := [97, 102, 102, 105, 110, 101]
def nmCyclic13 : List UInt8 := [99, 121, 99, 108, 105, 99, 49, 51]
def nmCyclic15 : List UInt8 := [99, 121, 99, 108, 105, 99, 49, 53]
def nmProj15 : List UInt8 := [112, 114, 111, 106, 101, 99, 116, 105, 118, 101, 49, 53]

noncomputable def rNamed (s : List UInt8) : (Int × List Bk) × Int :=
  if s = nmSingle then ((3, [⟨0, 1, 2⟩]), 0)
  else if s = nmFano then ((7, sortB (turnL 7 [] [⟨0, 1, 3⟩])), 0)
  else if s = nmAffine then ((9, (triples 9).filter affB), 0)
  else if s = nmCyclic13 then ((13, sortB (turnL 13 [] [⟨0, 1, 4⟩, ⟨0, 2, 7⟩])), 0)
  else if s = nmCyclic15 then ((15, sortB (turnL 15 [] [⟨0, 1, 4⟩, ⟨0, 2, 8⟩, ⟨0, 5, 10⟩])), 0)
  else if s = nmProj15 then ((15, (triples 15).filter xorB), 0)
  else ((0, []), 4)

end Go.Proofs.YtkimaohcmcfcnaaGreat
end

section
namespace Go.Proofs.YtkimaohcmcfcnaaGreat
open Go.Ab Go.Sort

theorem trip_le2 (v a b k : Nat) : (trip2 v a b k).length <= k := by rw [trip2, List.length_map, upTo_length]; omega
theorem trip_le1 (v a k : Nat) (hv : v <= 15) : (trip1 v a k).length <= k * 15 := by
  induction k with
  | zero => simp [trip1, upTo_self]
  | succ k ih =>
    by_cases hak : a + 1 <= k
    · rw [trip1_succ hak, List.length_append]; have := trip_le2 v a k v; omega
    · have : trip1 v a (k + 1) = [] := by unfold trip1; rw [upTo_self (by omega)]; rfl
      rw [this]; simp
theorem trip_le0 (v k : Nat) (hv : v <= 15) (hk : k <= 15) : (trip0 v k).length <= k * 225 := by
  induction k with
  | zero => simp [trip0, upTo_self]
  | succ k ih => rw [trip0_succ, List.length_append]; have := ih (by omega); have := trip_le1 v k v hv; omega
theorem sort_one (b : Bk) : sortB [b] = [b] := sortB_asc (by simp [Asc])
theorem aff_q3 {x y z : Nat} (hx : x < 9) (hy : y < 9) (hz : z < 9) :
    ((IntKind.i64.wrap (IntKind.i64.wrap ((x : Int).tmod 3 + (y : Int).tmod 3) + (z : Int).tmod 3)).tmod 3 == 0) = decide (((x : Int) + y + z) % 3 = 0) := by
  rw [Int.tmod_eq_emod_of_nonneg (show (0 : Int) <= x by omega), Int.tmod_eq_emod_of_nonneg (show (0 : Int) <= y by omega), Int.tmod_eq_emod_of_nonneg (show (0 : Int) <= z by omega),
    i64w (n := (x : Int) % 3 + y % 3) (by omega) (by omega), i64w (by omega) (by omega), Int.tmod_eq_emod_of_nonneg (by omega), Bool.eq_iff_iff]
  simp only [beq_iff_eq, decide_eq_true_eq]
  omega

theorem end_made {H H0 H1 : Heap} {Post : Value -> Heap -> Prop} {r : (Int × List Bk) × Int} {id : Nat} {p : Int} {bs : List Bk} {w : Value} (hp0 : H <+: H0) (hid : H.length <= id) (hb0 : H0[id]? = some ⟨[.int .i64 0, .slice none 0 0], true, true⟩)
    (h : ∀ H' w, H <+: H' -> BlocksIn H.length H'.length H' w r.1.2 -> Post (.tuple #[sysV r.1.1 w, .bool (decide (r.2 = 0))]) H') {k : Nat} (hk : H0.length <= k) (hp : H0 <+: H1) (hw : BlocksIn k H1.length H1 w bs) (hr : r = ((p, bs), 0)) :
    ∃ H2, storeAt H1 id 0 [.int .i64 p, w] = some H2 /\ cellsAt H2 id 0 2 = some [.int .i64 p, w] /\ ∃ v', Up H2 (.tuple #[.agg #[.int .i64 p, w], .bool true]) v' /\ Post v' H2 := by
  obtain ⟨q1, q2, q3, q4⟩ := put2 (cs := [.int .i64 p, w]) hp0 hid hb0 rfl hp rfl (by simp [one_int, hw.one])
  have hl0 : id < H0.length := (List.getElem?_eq_some_iff.1 hb0).1
  have fin := h _ w q3 (by rw [hr, List.length_set]; exact (hw.keep q4 (fun j hj e => by have := hj.1; omega)).wider (by have := hp0.length_le; omega))
  rw [hr] at fin
  exact ⟨_, q1, q2, _, Up.refl _ _, fin⟩

theorem l01Named_ok {H : Heap} {s : ByteArray} (Post : Value -> Heap -> Prop)
    (h : ∀ H' w, H <+: H' -> BlocksIn H.length H'.length H' w (rNamed s.toList).1.2 -> Post (.tuple #[sysV (rNamed s.toList).1.1 w, .bool (decide ((rNamed s.toList).2 = 0))]) H') :
    ACalls Tryz.prog 68 [.string s] H Post := by
  refine ACalls.res ?_
  refine acalls_vc (rs := [.cell 2 60, .tmp 3]) Tryz.func68 rfl rfl Tryz.ntmps68 rfl rfl ?_
  obtain ⟨l, hl⟩ : ∃ l, s.toList = l := ⟨_, rfl⟩
  rw [hl] at h
  have hp0 : H <+: H ++ [⟨[.int .i64 0, .slice none 0 0], true, true⟩] := List.prefix_append _ _
  have hb0 : (H ++ [(⟨[.int .i64 0, .slice none 0 0], true, true⟩ : Blk)])[H.length]? = some ⟨[.int .i64 0, .slice none 0 0], true, true⟩ := by simp
  have hl0 : (H ++ [(⟨[.int .i64 0, .slice none 0 0], true, true⟩ : Blk)]).length = H.length + 1 := by simp
  have hbl0 := Bl.nil 3 (H ++ [(⟨[.int .i64 0, .slice none 0 0], true, true⟩ : Blk)])
  have eHG : (H ++ [(⟨[.int .i64 0, .slice none 0 0], true, true⟩ : Blk)]) ++ [(⟨[], true, true⟩ : Blk)] = H ++ [⟨[.int .i64 0, .slice none 0 0], true, true⟩, ⟨[], true, true⟩] := by simp
  rw [eHG, hl0] at hbl0
  generalize H ++ [(⟨[.int .i64 0, .slice none 0 0], true, true⟩ : Blk)] = H0 at hp0 hb0 hl0 hbl0
  by_cases h1 : l = nmSingle
  · subst h1
    have hr : rNamed nmSingle = ((3, [⟨0, 1, 2⟩]), 0) := by rw [rNamed, if_pos rfl]
    simp (maxSteps := 1000000) [go_sem, hl, nmSingle]
    have hpa : H ++ [(⟨[.int .i64 0, .slice none 0 0], true, true⟩ : Blk), ⟨[], true, true⟩] <+: H ++ [(⟨[.int .i64 0, .slice none 0 0], true, true⟩ : Blk), ⟨[], true, true⟩, ⟨[.int .i64 0, .int .i64 1, .int .i64 2], true, true⟩] := ⟨[⟨[.int .i64 0, .int .i64 1, .int .i64 2], true, true⟩], by simp⟩
    have hx0 : (H ++ [(⟨[.int .i64 0, .slice none 0 0], true, true⟩ : Blk), ⟨[], true, true⟩, ⟨[.int .i64 0, .int .i64 1, .int .i64 2], true, true⟩])[H.length + 2]? = some ⟨tri [⟨0, 1, 2⟩], true, true⟩ := by simp [tri, Bk.cells]
    generalize H ++ [(⟨[.int .i64 0, .slice none 0 0], true, true⟩ : Blk), ⟨[], true, true⟩, ⟨[.int .i64 0, .int .i64 1, .int .i64 2], true, true⟩] = HS at hpa hx0 ⊢
    refine ACalls.up (args' := [.int .i64 3, lv 3 (H.length + 2) 0 1]) ⟨Up.refl _ _, Up.ex (by omega) (.inr (by rw [cellsAt_of hx0 rfl (by simp [tri, Bk.cells])]; rfl)), trivial⟩ ?_
    refine l01Made_ok (v := 3) (bs := [⟨0, 1, 2⟩]) ⟨H.length + 2, 0, rfl, Holds.at ⟨true, hx0⟩, by simp⟩ (by simp) _ ?_
    intro H2 w hp2 hw
    rw [sort_one] at hw
    obtain ⟨H3, q1, q2, fin⟩ := end_made hp0 (Nat.le_refl _) hb0 h (show H0.length <= HS.length from ((hbl0.1.trans hpa)).length_le) (hbl0.1.trans (hpa.trans hp2)) hw hr
    simp (maxSteps := 1000000) [go_sem, sysV, q1, q2]
    exact fin
  have h1' : (l == [115, 105, 110, 103, 108, 101]) = false := beq_eq_false_iff_ne.2 h1
  by_cases h2 : l = nmFano
  · subst h2
    have hr : rNamed nmFano = ((7, sortB (turnL 7 [] [⟨0, 1, 3⟩])), 0) := by rw [rNamed, if_neg (by decide), if_pos rfl]
    simp (maxSteps := 1000000) [go_sem, hl, nmFano]
    generalize H ++ [(⟨[.int .i64 0, .slice none 0 0], true, true⟩ : Blk), ⟨[], true, true⟩] = HG at hbl0 ⊢
    refine ACalls.up (args' := [lv 3 (H.length + 1) 0 (([] : List Bk).length), .int .i64 (7 : Nat), .int .i64 0, .int .i64 1, .int .i64 3]) ⟨Up.ex0 _ _ _ _ _ _, Up.refl _ _, Up.refl _ _, Up.refl _ _, Up.refl _ _, trivial⟩ ?_
    refine l01Turned_ok (H0 := H0) (v := 7) (b := ⟨0, 1, 3⟩) (acc := []) (by omega) (by simp [small]) (by simp) (by simpa [tri] using hbl0) _ ?_
    intro HT0 it0 hbk0
    have hle0 := turnK_len 7 [] ⟨0, 1, 3⟩ 7
    obtain ⟨acc0, hacc0⟩ : ∃ a, turnK 7 [] ⟨0, 1, 3⟩ 7 = a := ⟨_, rfl⟩
    rw [hacc0] at hbk0 hle0 ⊢
    simp only [List.length_nil] at hle0
    have hll0 : acc0.length <= 7 := by omega
    have hee : turnL 7 [] [⟨0, 1, 3⟩] = acc0 := by simp only [turnL, List.foldl_cons, List.foldl_nil, hacc0]
    simp (maxSteps := 1000000) [go_sem]
    have hown : BlocksIn H0.length HT0.length HT0 (lv 3 it0 0 acc0.length) acc0 := OwnBlocks.inn (OwnBlocks.of_ol hbk0.2.1 (by omega)) hbk0.2.2
    refine l01Made_ok hown.read (by omega) _ ?_
    intro H2 w hp2 hw
    rw [hee] at hr
    obtain ⟨H3, q1, q2, fin⟩ := end_made hp0 (Nat.le_refl _) hb0 h hbk0.1.length_le (hbk0.1.trans hp2) hw hr
    simp (maxSteps := 1000000) [go_sem, sysV, q1, q2]
    exact fin
  have h2' : (l == [102, 97, 110, 111]) = false := beq_eq_false_iff_ne.2 h2
  by_cases h4 : l = nmCyclic13
  · subst h4
    have hr : rNamed nmCyclic13 = ((13, sortB (turnL 13 [] [⟨0, 1, 4⟩, ⟨0, 2, 7⟩])), 0) := by rw [rNamed, if_neg (by decide), if_neg (by decide), if_neg (by decide), if_pos rfl]
    simp (maxSteps := 1000000) [go_sem, hl, nmCyclic13]
    generalize H ++ [(⟨[.int .i64 0, .slice none 0 0], true, true⟩ : Blk), ⟨[], true, true⟩] = HG at hbl0 ⊢
    refine ACalls.up (args' := [lv 3 (H.length + 1) 0 (([] : List Bk).length), .int .i64 (13 : Nat), .int .i64 0, .int .i64 1, .int .i64 4]) ⟨Up.ex0 _ _ _ _ _ _, Up.refl _ _, Up.refl _ _, Up.refl _ _, Up.refl _ _, trivial⟩ ?_
    refine l01Turned_ok (H0 := H0) (v := 13) (b := ⟨0, 1, 4⟩) (acc := []) (by omega) (by simp [small]) (by simp) (by simpa [tri] using hbl0) _ ?_
    intro HT0 it0 hbk0
    have hle0 := turnK_len 13 [] ⟨0, 1, 4⟩ 13
    obtain ⟨acc0, hacc0⟩ : ∃ a, turnK 13 [] ⟨0, 1, 4⟩ 13 = a := ⟨_, rfl⟩
    rw [hacc0] at hbk0 hle0 ⊢
    simp only [List.length_nil] at hle0
    have hll0 : acc0.length <= 13 := by omega
    simp (maxSteps := 1000000) [go_sem]
    refine l01Turned_ok (v := 13) (b := ⟨0, 2, 7⟩) (acc := acc0) (by omega) (by simp [small]) (by omega) hbk0 _ ?_
    intro HT1 it1 hbk1
    have hle1 := turnK_len 13 acc0 ⟨0, 2, 7⟩ 13
    obtain ⟨acc1, hacc1⟩ : ∃ a, turnK 13 acc0 ⟨0, 2, 7⟩ 13 = a := ⟨_, rfl⟩
    rw [hacc1] at hbk1 hle1 ⊢
    have hll1 : acc1.length <= 26 := by omega
    have hee : turnL 13 [] [⟨0, 1, 4⟩, ⟨0, 2, 7⟩] = acc1 := by simp only [turnL, List.foldl_cons, List.foldl_nil, hacc0, hacc1]
    simp (maxSteps := 1000000) [go_sem]
    have hown : BlocksIn H0.length HT1.length HT1 (lv 3 it1 0 acc1.length) acc1 := OwnBlocks.inn (OwnBlocks.of_ol hbk1.2.1 (by omega)) hbk1.2.2
    refine l01Made_ok hown.read (by omega) _ ?_
    intro H2 w hp2 hw
    rw [hee] at hr
    obtain ⟨H3, q1, q2, fin⟩ := end_made hp0 (Nat.le_refl _) hb0 h hbk1.1.length_le (hbk1.1.trans hp2) hw hr
    simp (maxSteps := 1000000) [go_sem, sysV, q1, q2]
    exact fin
  have h4' : (l == [99, 121, 99, 108, 105, 99, 49, 51]) = false := beq_eq_false_iff_ne.2 h4
  by_cases h5 : l = nmCyclic15
  · subst h5
    have hr : rNamed nmCyclic15 = ((15, sortB (turnL 15 [] [⟨0, 1, 4⟩, ⟨0, 2, 8⟩, ⟨0, 5, 10⟩])), 0) := by rw [rNamed, if_neg (by decide), if_neg (by decide), if_neg (by decide), if_neg (by decide), if_pos rfl]
    simp (maxSteps := 1000000) [go_sem, hl, nmCyclic15]
    generalize H ++ [(⟨[.int .i64 0, .slice none 0 0], true, true⟩ : Blk), ⟨[], true, true⟩] = HG at hbl0 ⊢
    refine ACalls.up (args' := [lv 3 (H.length + 1) 0 (([] : List Bk).length), .int .i64 (15 : Nat), .int .i64 0, .int .i64 1, .int .i64 4]) ⟨Up.ex0 _ _ _ _ _ _, Up.refl _ _, Up.refl _ _, Up.refl _ _, Up.refl _ _, trivial⟩ ?_
    refine l01Turned_ok (H0 := H0) (v := 15) (b := ⟨0, 1, 4⟩) (acc := []) (by omega) (by simp [small]) (by simp) (by simpa [tri] using hbl0) _ ?_
    intro HT0 it0 hbk0
    have hle0 := turnK_len 15 [] ⟨0, 1, 4⟩ 15
    obtain ⟨acc0, hacc0⟩ : ∃ a, turnK 15 [] ⟨0, 1, 4⟩ 15 = a := ⟨_, rfl⟩
    rw [hacc0] at hbk0 hle0 ⊢
    simp only [List.length_nil] at hle0
    have hll0 : acc0.length <= 15 := by omega
    simp (maxSteps := 1000000) [go_sem]
    refine l01Turned_ok (v := 15) (b := ⟨0, 2, 8⟩) (acc := acc0) (by omega) (by simp [small]) (by omega) hbk0 _ ?_
    intro HT1 it1 hbk1
    have hle1 := turnK_len 15 acc0 ⟨0, 2, 8⟩ 15
    obtain ⟨acc1, hacc1⟩ : ∃ a, turnK 15 acc0 ⟨0, 2, 8⟩ 15 = a := ⟨_, rfl⟩
    rw [hacc1] at hbk1 hle1 ⊢
    have hll1 : acc1.length <= 30 := by omega
    simp (maxSteps := 1000000) [go_sem]
    refine l01Turned_ok (v := 15) (b := ⟨0, 5, 10⟩) (acc := acc1) (by omega) (by simp [small]) (by omega) hbk1 _ ?_
    intro HT2 it2 hbk2
    have hle2 := turnK_len 15 acc1 ⟨0, 5, 10⟩ 15
    obtain ⟨acc2, hacc2⟩ : ∃ a, turnK 15 acc1 ⟨0, 5, 10⟩ 15 = a := ⟨_, rfl⟩
    rw [hacc2] at hbk2 hle2 ⊢
    have hll2 : acc2.length <= 45 := by omega
    have hee : turnL 15 [] [⟨0, 1, 4⟩, ⟨0, 2, 8⟩, ⟨0, 5, 10⟩] = acc2 := by simp only [turnL, List.foldl_cons, List.foldl_nil, hacc0, hacc1, hacc2]
    simp (maxSteps := 1000000) [go_sem]
    have hown : BlocksIn H0.length HT2.length HT2 (lv 3 it2 0 acc2.length) acc2 := OwnBlocks.inn (OwnBlocks.of_ol hbk2.2.1 (by omega)) hbk2.2.2
    refine l01Made_ok hown.read (by omega) _ ?_
    intro H2 w hp2 hw
    rw [hee] at hr
    obtain ⟨H3, q1, q2, fin⟩ := end_made hp0 (Nat.le_refl _) hb0 h hbk2.1.length_le (hbk2.1.trans hp2) hw hr
    simp (maxSteps := 1000000) [go_sem, sysV, q1, q2]
    exact fin
  have h5' : (l == [99, 121, 99, 108, 105, 99, 49, 53]) = false := beq_eq_false_iff_ne.2 h5
  by_cases h3 : l = nmAffine
  · subst h3
    have hr : rNamed nmAffine = ((9, (triples 9).filter affB), 0) := by rw [rNamed, if_neg (by decide), if_neg (by decide), if_pos rfl]
    simp (maxSteps := 1000000) [go_sem, hl, nmAffine]
    generalize H ++ [(⟨[.int .i64 0, .slice none 0 0], true, true⟩ : Blk), ⟨[], true, true⟩] = HG at hbl0 ⊢
    refine AWp.loopVc (St := Nat × Nat × List Bk) (fun s => [(2, .pointer (some ⟨H.length, 0, none⟩)), (4, lv 3 s.2.1 0 s.2.2.length), (5, .int .i64 9), (6, .int .i64 s.1)])
      (fun s H' => s.1 <= 9 /\ s.2.2 = (trip0 9 s.1).filter affB /\ Bl 3 H0 H' s.2.1 (tri s.2.2) s.2.2.length) (fun s => 9 - s.1) (0, H.length + 1, []) ?_ ?_ ?_
    · simp [upF, Fr.get, Up.refl, Up.ex0]
    · exact ⟨by simp, by simp [trip0_start], by simpa [tri] using hbl0⟩
    · rintro K ⟨a, id, acc⟩ H' ⟨ha, hacc, hbl⟩ hK
      simp only at ha hacc hbl
      by_cases hlt : a < 9
      · have hw_a : IntKind.i64.wrap ((a : Int) + 1) = (a : Int) + 1 := i64w (by omega) (by omega)
        have hi_a : (a : Int) < 9 := by omega
        simp (maxSteps := 1000000) [go_sem, hlt, hi_a, hw_a]
        refine AWp.loopVc (St := Nat × Nat × List Bk) (fun s => [(2, .pointer (some ⟨H.length, 0, none⟩)), (4, lv 3 s.2.1 0 s.2.2.length), (5, .int .i64 9), (6, .int .i64 a), (7, .int .i64 s.1)])
          (fun s H' => a + 1 <= s.1 /\ s.1 <= 9 /\ s.2.2 = (trip0 9 a ++ trip1 9 a s.1).filter affB /\ Bl 3 H0 H' s.2.1 (tri s.2.2) s.2.2.length) (fun s => 9 - s.1) (a + 1, id, acc) ?_ ?_ ?_
        · simp [upF, Fr.get, Up.refl]
        · exact ⟨by simp, by simp only; omega, by simp [trip1_start, hacc], hbl⟩
        · rintro K2 ⟨b, id2, acc2⟩ H2 ⟨hab, hb, hacc2, hbl2⟩ hK2
          simp only at hab hb hacc2 hbl2
          by_cases hlt2 : b < 9
          · have hw_b : IntKind.i64.wrap ((b : Int) + 1) = (b : Int) + 1 := i64w (by omega) (by omega)
            have hi_b : (b : Int) < 9 := by omega
            simp (maxSteps := 1000000) [go_sem, hlt2, hi_b, hw_b]
            refine AWp.loopVc (St := Nat × Nat × List Bk) (fun s => [(2, .pointer (some ⟨H.length, 0, none⟩)), (4, lv 3 s.2.1 0 s.2.2.length), (5, .int .i64 9), (6, .int .i64 a), (7, .int .i64 b), (8, .int .i64 s.1)])
              (fun s H' => b + 1 <= s.1 /\ s.1 <= 9 /\ s.2.2 = (trip0 9 a ++ trip1 9 a b ++ trip2 9 a b s.1).filter affB /\ Bl 3 H0 H' s.2.1 (tri s.2.2) s.2.2.length) (fun s => 9 - s.1) (b + 1, id2, acc2) ?_ ?_ ?_
            · simp [upF, Fr.get, Up.refl]
            · exact ⟨by simp, by simp only; omega, by simp [trip2_start, hacc2], hbl2⟩
            · rintro K3 ⟨c, id3, acc3⟩ H3 ⟨hbc, hc, hacc3, hbl3⟩ hK3
              simp only at hbc hc hacc3 hbl3
              by_cases hlt3 : c < 9
              · have hw_c : IntKind.i64.wrap ((c : Int) + 1) = (c : Int) + 1 := i64w (by omega) (by omega)
                have hi_c : (c : Int) < 9 := by omega
                have hlen : acc3.length <= 10000 := by
                  rw [hacc3]
                  refine Nat.le_trans (List.length_filter_le _ _) ?_
                  simp only [List.length_append]
                  have := trip_le0 9 a (by omega) (by omega); have := trip_le1 9 a b (by omega); have := trip_le2 9 a b c
                  omega
                have hsn : ∀ l : List Bk, (l ++ trip2 9 a b (c + 1)).filter affB = (l ++ trip2 9 a b c).filter affB ++ (if affB ⟨a, b, c⟩ then [⟨a, b, c⟩] else []) := by
                  intro l
                  rw [trip2_succ hbc, <- List.append_assoc, List.filter_append (_ ++ _)]
                  congr 1
                  cases hP : affB ⟨a, b, c⟩ <;> simp [hP]
                have no : affB ⟨a, b, c⟩ = false -> ∀ fr', upF H3 [(2, .pointer (some ⟨H.length, 0, none⟩)), (4, lv 3 id3 0 acc3.length), (5, .int .i64 9), (6, .int .i64 a), (7, .int .i64 b), (8, .int .i64 (c + 1))] fr' -> K3 fr' H3 := fun hP fr' hf =>
                  hK3 (c + 1, id3, acc3) _ _ (by simp only; omega) (by simpa using hf) ⟨by simp only; omega, by simp only; omega, by simp only [hsn, hP, hacc3]; simp, hbl3⟩
                obtain ⟨hsrc, H5, hap, hbl5⟩ := hbl3.push (xs := (⟨a, b, c⟩ : Bk).cells) (by omega) rfl
                simp only [Bk.cells] at hsrc hap hbl5
                have yes : affB ⟨a, b, c⟩ = true -> ∀ fr', upF H5 [(2, .pointer (some ⟨H.length, 0, none⟩)), (4, lv 3 (H3.length + 1) 0 (acc3.length + 1)), (5, .int .i64 9), (6, .int .i64 a), (7, .int .i64 b), (8, .int .i64 (c + 1))] fr' -> K3 fr' H5 := fun hP fr' hf =>
                  hK3 (c + 1, H3.length + 1, acc3 ++ [⟨a, b, c⟩]) _ _ (by simp only; omega) (by simpa using hf) ⟨by simp only; omega, by simp only; omega, by simp only [hsn, hP, hacc3]; simp, by
                    simp only [List.length_append, List.length_singleton, tri_append, tri_one, Bk.cells]
                    exact hbl5⟩
                have e1 := aff_q1 (x := a) (y := b) (z := c) (by omega) (by omega) hlt3
                have e3 := aff_q3 (x := a) (y := b) (z := c) (by omega) (by omega) hlt3
                have he : affB ⟨a, b, c⟩ = (decide (((a : Int) / 3 + b / 3 + c / 3) % 3 = 0) && decide (((a : Int) + b + c) % 3 = 0)) := rfl
                cases hq1 : decide (((a : Int) / 3 + b / 3 + c / 3) % 3 = 0) with
                | false =>
                  rw [hq1] at e1 he
                  simp (maxSteps := 1000000) [go_sem, undef, hlt3, hi_c, hw_c, e1]
                  exact no (by rw [he]; rfl) _ (by simp [upF, Fr.get, Up.refl])
                | true =>
                  cases hq3 : decide (((a : Int) + b + c) % 3 = 0) with
                  | false =>
                    rw [hq1] at e1
                    rw [hq3] at e3
                    rw [hq1, hq3] at he
                    simp (maxSteps := 1000000) [go_sem, undef, hlt3, hi_c, hw_c, e1, e3]
                    exact no (by rw [he]; rfl) _ (by simp [upF, Fr.get, Up.refl])
                  | true =>
                    rw [hq1] at e1
                    rw [hq3] at e3
                    rw [hq1, hq3] at he
                    simp (maxSteps := 1000000) [go_sem, undef, hlt3, hi_c, hw_c, e1, e3, hsrc, hap]
                    exact andK_intro (by omega) (yes (by rw [he]; rfl) _ (by simp [upF, Fr.get, Up.refl]))
              · have : c = 9 := by omega
                subst this
                simp (maxSteps := 1000000) [go_sem, hw_b]
                exact hK2 (b + 1, id3, acc3) _ _ (by simp only; omega) (by simp [upF, Fr.get, Up.refl]) ⟨by simp only; omega, by simp only; omega, by simp only [trip1_succ hab, <- List.append_assoc]; exact hacc3, hbl3⟩
          · have : b = 9 := by omega
            subst this
            simp (maxSteps := 1000000) [go_sem, hw_a]
            exact hK (a + 1, id2, acc2) _ _ (by simp only; omega) (by simp [upF, Fr.get, Up.refl]) ⟨by simp only; omega, by simp only [trip0_succ]; exact hacc2, hbl2⟩
      · have : a = 9 := by omega
        subst this
        have hlen : acc.length <= 10000 := by
          rw [hacc]
          refine Nat.le_trans (List.length_filter_le _ _) ?_
          have := trip_le0 9 9 (by omega) (by omega)
          omega
        have hown : BlocksIn H0.length H'.length H' (lv 3 id 0 acc.length) acc := OwnBlocks.inn (OwnBlocks.of_ol hbl.2.1 (by omega)) hbl.2.2
        simp (maxSteps := 1000000) [go_sem]
        refine l01Made_ok hown.read (by omega) _ ?_
        intro H2 w hp2 hw
        have hac : acc = (triples 9).filter affB := hacc
        rw [hac, triples_sort] at hw
        obtain ⟨H3, q1, q2, fin⟩ := end_made hp0 (Nat.le_refl _) hb0 h hbl.1.length_le (hbl.1.trans hp2) hw hr
        simp (maxSteps := 1000000) [go_sem, sysV, q1, q2]
        exact fin
  have h3' : (l == [97, 102, 102, 105, 110, 101]) = false := beq_eq_false_iff_ne.2 h3
  by_cases h6 : l = nmProj15
  · subst h6
    have hr : rNamed nmProj15 = ((15, (triples 15).filter xorB), 0) := by rw [rNamed, if_neg (by decide), if_neg (by decide), if_neg (by decide), if_neg (by decide), if_neg (by decide), if_pos rfl]
    simp (maxSteps := 1000000) [go_sem, hl, nmProj15]
    generalize H ++ [(⟨[.int .i64 0, .slice none 0 0], true, true⟩ : Blk), ⟨[], true, true⟩] = HG at hbl0 ⊢
    refine AWp.loopVc (St := Nat × Nat × List Bk) (fun s => [(2, .pointer (some ⟨H.length, 0, none⟩)), (4, lv 3 s.2.1 0 s.2.2.length), (5, .int .i64 15), (6, .int .i64 s.1)])
      (fun s H' => s.1 <= 15 /\ s.2.2 = (trip0 15 s.1).filter xorB /\ Bl 3 H0 H' s.2.1 (tri s.2.2) s.2.2.length) (fun s => 15 - s.1) (0, H.length + 1, []) ?_ ?_ ?_
    · simp [upF, Fr.get, Up.refl, Up.ex0]
    · exact ⟨by simp, by simp [trip0_start], by simpa [tri] using hbl0⟩
    · rintro K ⟨a, id, acc⟩ H' ⟨ha, hacc, hbl⟩ hK
      simp only at ha hacc hbl
      by_cases hlt : a < 15
      · have hw_a : IntKind.i64.wrap ((a : Int) + 1) = (a : Int) + 1 := i64w (by omega) (by omega)
        have hi_a : (a : Int) < 15 := by omega
        simp (maxSteps := 1000000) [go_sem, hlt, hi_a, hw_a]
        refine AWp.loopVc (St := Nat × Nat × List Bk) (fun s => [(2, .pointer (some ⟨H.length, 0, none⟩)), (4, lv 3 s.2.1 0 s.2.2.length), (5, .int .i64 15), (6, .int .i64 a), (7, .int .i64 s.1)])
          (fun s H' => a + 1 <= s.1 /\ s.1 <= 15 /\ s.2.2 = (trip0 15 a ++ trip1 15 a s.1).filter xorB /\ Bl 3 H0 H' s.2.1 (tri s.2.2) s.2.2.length) (fun s => 15 - s.1) (a + 1, id, acc) ?_ ?_ ?_
        · simp [upF, Fr.get, Up.refl]
        · exact ⟨by simp, by simp only; omega, by simp [trip1_start, hacc], hbl⟩
        · rintro K2 ⟨b, id2, acc2⟩ H2 ⟨hab, hb, hacc2, hbl2⟩ hK2
          simp only at hab hb hacc2 hbl2
          by_cases hlt2 : b < 15
          · have hw_b : IntKind.i64.wrap ((b : Int) + 1) = (b : Int) + 1 := i64w (by omega) (by omega)
            have hi_b : (b : Int) < 15 := by omega
            simp (maxSteps := 1000000) [go_sem, hlt2, hi_b, hw_b]
            refine AWp.loopVc (St := Nat × Nat × List Bk) (fun s => [(2, .pointer (some ⟨H.length, 0, none⟩)), (4, lv 3 s.2.1 0 s.2.2.length), (5, .int .i64 15), (6, .int .i64 a), (7, .int .i64 b), (8, .int .i64 s.1)])
              (fun s H' => b + 1 <= s.1 /\ s.1 <= 15 /\ s.2.2 = (trip0 15 a ++ trip1 15 a b ++ trip2 15 a b s.1).filter xorB /\ Bl 3 H0 H' s.2.1 (tri s.2.2) s.2.2.length) (fun s => 15 - s.1) (b + 1, id2, acc2) ?_ ?_ ?_
            · simp [upF, Fr.get, Up.refl]
            · exact ⟨by simp, by simp only; omega, by simp [trip2_start, hacc2], hbl2⟩
            · rintro K3 ⟨c, id3, acc3⟩ H3 ⟨hbc, hc, hacc3, hbl3⟩ hK3
              simp only at hbc hc hacc3 hbl3
              by_cases hlt3 : c < 15
              · have hw_c : IntKind.i64.wrap ((c : Int) + 1) = (c : Int) + 1 := i64w (by omega) (by omega)
                have hi_c : (c : Int) < 15 := by omega
                have hlen : acc3.length <= 10000 := by
                  rw [hacc3]
                  refine Nat.le_trans (List.length_filter_le _ _) ?_
                  simp only [List.length_append]
                  have := trip_le0 15 a (by omega) (by omega); have := trip_le1 15 a b (by omega); have := trip_le2 15 a b c
                  omega
                have hsn : ∀ l : List Bk, (l ++ trip2 15 a b (c + 1)).filter xorB = (l ++ trip2 15 a b c).filter xorB ++ (if xorB ⟨a, b, c⟩ then [⟨a, b, c⟩] else []) := by
                  intro l
                  rw [trip2_succ hbc, <- List.append_assoc, List.filter_append (_ ++ _)]
                  congr 1
                  cases hP : xorB ⟨a, b, c⟩ <;> simp [hP]
                have no : xorB ⟨a, b, c⟩ = false -> ∀ fr', upF H3 [(2, .pointer (some ⟨H.length, 0, none⟩)), (4, lv 3 id3 0 acc3.length), (5, .int .i64 15), (6, .int .i64 a), (7, .int .i64 b), (8, .int .i64 (c + 1))] fr' -> K3 fr' H3 := fun hP fr' hf =>
                  hK3 (c + 1, id3, acc3) _ _ (by simp only; omega) (by simpa using hf) ⟨by simp only; omega, by simp only; omega, by simp only [hsn, hP, hacc3]; simp, hbl3⟩
                obtain ⟨hsrc, H5, hap, hbl5⟩ := hbl3.push (xs := (⟨a, b, c⟩ : Bk).cells) (by omega) rfl
                simp only [Bk.cells] at hsrc hap hbl5
                have yes : xorB ⟨a, b, c⟩ = true -> ∀ fr', upF H5 [(2, .pointer (some ⟨H.length, 0, none⟩)), (4, lv 3 (H3.length + 1) 0 (acc3.length + 1)), (5, .int .i64 15), (6, .int .i64 a), (7, .int .i64 b), (8, .int .i64 (c + 1))] fr' -> K3 fr' H5 := fun hP fr' hf =>
                  hK3 (c + 1, H3.length + 1, acc3 ++ [⟨a, b, c⟩]) _ _ (by simp only; omega) (by simpa using hf) ⟨by simp only; omega, by simp only; omega, by simp only [hsn, hP, hacc3]; simp, by
                    simp only [List.length_append, List.length_singleton, tri_append, tri_one, Bk.cells]
                    exact hbl5⟩
                have he : xorB ⟨a, b, c⟩ = (IntKind.i64.wrap ↑(BitVec.ofInt 64 (IntKind.i64.wrap ↑(BitVec.ofInt 64 (IntKind.i64.wrap ((a : Int) + 1)) ^^^ BitVec.ofInt 64 (IntKind.i64.wrap ((b : Int) + 1))).toNat) ^^^ BitVec.ofInt 64 (IntKind.i64.wrap ((c : Int) + 1))).toNat == 0) := rfl
                simp (maxSteps := 1000000) [go_sem, undef, hlt3, hi_c]
                refine condK_intro (fun hh => ?_) (fun hh => ?_)
                · simp (maxSteps := 1000000) [go_sem, hw_c, hsrc, hap]
                  exact andK_intro (by omega) (yes (by rw [he]; exact hh) _ (by simp [upF, Fr.get, Up.refl]))
                · rw [hw_c]
                  exact no (by rw [he]; exact hh) _ (by simp [upF, Fr.get, Up.refl])
              · have : c = 15 := by omega
                subst this
                simp (maxSteps := 1000000) [go_sem, hw_b]
                exact hK2 (b + 1, id3, acc3) _ _ (by simp only; omega) (by simp [upF, Fr.get, Up.refl]) ⟨by simp only; omega, by simp only; omega, by simp only [trip1_succ hab, <- List.append_assoc]; exact hacc3, hbl3⟩
          · have : b = 15 := by omega
            subst this
            simp (maxSteps := 1000000) [go_sem, hw_a]
            exact hK (a + 1, id2, acc2) _ _ (by simp only; omega) (by simp [upF, Fr.get, Up.refl]) ⟨by simp only; omega, by simp only [trip0_succ]; exact hacc2, hbl2⟩
      · have : a = 15 := by omega
        subst this
        have hlen : acc.length <= 10000 := by
          rw [hacc]
          refine Nat.le_trans (List.length_filter_le _ _) ?_
          have := trip_le0 15 15 (by omega) (by omega)
          omega
        have hown : BlocksIn H0.length H'.length H' (lv 3 id 0 acc.length) acc := OwnBlocks.inn (OwnBlocks.of_ol hbl.2.1 (by omega)) hbl.2.2
        simp (maxSteps := 1000000) [go_sem]
        refine l01Made_ok hown.read (by omega) _ ?_
        intro H2 w hp2 hw
        have hac : acc = (triples 15).filter xorB := hacc
        rw [hac, triples_sort] at hw
        obtain ⟨H3, q1, q2, fin⟩ := end_made hp0 (Nat.le_refl _) hb0 h hbl.1.length_le (hbl.1.trans hp2) hw hr
        simp (maxSteps := 1000000) [go_sem, sysV, q1, q2]
        exact fin
  have h6' : (l == [112, 114, 111, 106, 101, 99, 116, 105, 118, 101, 49, 53]) = false := beq_eq_false_iff_ne.2 h6
  have hr : rNamed l = ((0, []), 4) := by rw [rNamed, if_neg h1, if_neg h2, if_neg h3, if_neg h4, if_neg h5, if_neg h6]
  simp (maxSteps := 1000000) [go_sem, hl, h1', h2', h3', h4', h5', h6']
  refine ⟨_, Up.tuple (ys := #[sysV 0 (lv 3 0 0 0), .bool false]) ⟨zeroSys, Up.refl _ _, trivial⟩, ?_⟩
  rw [hr] at h
  exact h _ (lv 3 0 0 0) (List.prefix_append _ _) (BlocksIn.nil _ _ _)

end Go.Proofs.YtkimaohcmcfcnaaGreat
end

section
namespace Go.Ab
open Go.RowKit (Below)

section
variable {P : Program} {N : Nat} {ops : Array Oper} {K : Fr -> Heap -> Prop} {fs : List Nat}

inductive TreeG
  | nil
  | one (i : Nat) (fl : Bool) (t : TreeG)
  | alt (f : Nat) (t' : TreeG) (t : TreeG)
def vG (P : Program) (N : Nat) (ops : Array Oper) (K : Fr -> Heap -> Prop) : TreeG -> Fr -> Heap -> Prop
  | .nil, fr, H => K fr H
  | .one i fl t, fr, H => match ops[i]? with
    | none => False
    | some o => match isR o.op with
      | true => vstep P N ops o (vG P N ops K t) fr H
      | false => vstep P N ops o (eK fl H (vG P N ops K t)) fr H
  | .alt f t' t, fr, H => match ops[f]? with
    | some o' => vstep P N ops o' (eK true H (vG P N ops K t')) fr H /\ vG P N ops K t fr H
    | none => False
def treeGOK (ops : Array Oper) (fs : List Nat) : TreeG -> List Nat -> List (Nat × Bool) -> Bool
  | .nil, _, l => l.isEmpty
  | .one i fl t, cov, (j, fl') :: l => i == j && fl == fl' && ((match ops[i]? with | some o => isR o.op | none => false) || fs.all fun f => cov.contains f || !(l.map (·.1)).contains f) && treeGOK ops fs t [] l
  | .alt f t' t, cov, (j, fl') :: l => (match ops[f]? with | some o' => !isR o'.op | none => false) && decide ((l.filter fun y => y.1 != f).length < l.length) && treeGOK ops fs t' [] ((j, fl') :: l.filter fun y => y.1 != f) && treeGOK ops fs t (f :: cov) ((j, fl') :: l)
  | _, _, [] => false
def vGK (P : Program) (N : Nat) (ops : Array Oper) (K : Fr -> Heap -> Prop) (t : TreeG) (fr : Fr) (H : Heap) : Prop := vG P N ops K t fr H
def eGK (P : Program) (N : Nat) (ops : Array Oper) (K : Fr -> Heap -> Prop) (t : TreeG) (fl : Bool) (H : Heap) (fr : Fr) (H' : Heap) : Prop :=
  match fl with
  | true => andK (H <+: H') (vG P N ops K t fr H')
  | false => vG P N ops K t fr H'
def vGo (P : Program) (N : Nat) (ops : Array Oper) (K : Fr -> Heap -> Prop) (t : TreeG) (fl : Bool) (fr : Fr) (H : Heap) (o : Oper) : Prop :=
  match isR o.op with
  | true => vstep P N ops o (vGK P N ops K t) fr H
  | false => vstep P N ops o (eGK P N ops K t fl H) fr H
def vGe (P : Program) (N : Nat) (ops : Array Oper) (K : Fr -> Heap -> Prop) (t : TreeG) (fl : Bool) (fr : Fr) (H : Heap) (o : Oper) : Prop := vstep P N ops o (eGK P N ops K t fl H) fr H
theorem vG_nil (K : Fr -> Heap -> Prop) (fr : Fr) (H : Heap) : vG P N ops K .nil fr H = K fr H := rfl
theorem eGK_eq (K : Fr -> Heap -> Prop) (t : TreeG) (fl : Bool) (H : Heap) : eK fl H (vG P N ops K t) = eGK P N ops K t fl H := by
  funext f h
  cases fl <;> rfl
theorem vG_one (K : Fr -> Heap -> Prop) (i : Nat) (fl : Bool) (t : TreeG) (fr : Fr) (H : Heap) : vG P N ops K (.one i fl t) fr H = bindO ops[i]? (vGo P N ops K t fl fr H) := by
  simp only [vG]
  cases ops[i]? with
  | none => simp [bindO]
  | some o =>
    simp only [bindO_some, vGo]
    cases isR o.op with
    | true => rfl
    | false => simp only [eGK_eq]
attribute [go_sem] vGK eGK vGo vGe vG_nil vG_one

end
end Go.Ab
end

section
namespace Go.Proofs.YtkimaohcmcfcnaaGreat
open Go.Ab Go.Sort

/-! Renumbering. -/
theorem ord_nth {p : Int} {xs : List Int} (hO : OrdL p xs) {a : Int} (h0 : 0 <= a) (h1 : a < p) : xs[a.toNat]? = some (nthI xs a) /\ 0 <= nthI xs a /\ nthI xs a < p := by
  have hl : a.toNat < xs.length := by have := hO.1; omega
  have e : xs[a.toNat]? = some (nthI xs a) := by
    have := nthI_in hl
    rwa [Int.toNat_of_nonneg h0] at this
  exact ⟨e, hO.2.2 _ (List.mem_of_getElem? e)⟩
theorem ord_inj {p : Int} {xs : List Int} (hO : OrdL p xs) {a b : Int} (h0 : 0 <= a) (h1 : a < p) (g0 : 0 <= b) (g1 : b < p) : nthI xs a = nthI xs b ↔ a = b := by
  constructor
  · intro e
    have ha := (ord_nth hO h0 h1).1
    have hb := (ord_nth hO g0 g1).1
    rw [e, <- hb] at ha
    have := (List.getElem?_inj (by have := hO.1; omega) hO.2.1).1 ha
    omega
  · rintro rfl; rfl
theorem ren_good {p : Int} {xs : List Int} (hO : OrdL p xs) {b : Bk} (hg : good p b = true) : good p (renB xs b) = true := by
  have g := good_iff.1 hg
  have e1 := ord_nth hO (a := b.a) (by omega) (by omega)
  have e2 := ord_nth hO (a := b.b) (by omega) (by omega)
  have e3 := ord_nth hO (a := b.c) (by omega) (by omega)
  refine blk_good.2 ⟨e1.2, e2.2, e3.2, ?_, ?_, ?_⟩
  · intro e; have := (ord_inj hO (by omega) (by omega) (by omega) (by omega)).1 e; omega
  · intro e; have := (ord_inj hO (by omega) (by omega) (by omega) (by omega)).1 e; omega
  · intro e; have := (ord_inj hO (by omega) (by omega) (by omega) (by omega)).1 e; omega
end Go.Proofs.YtkimaohcmcfcnaaGreat
end

section
namespace Go.Proofs.YtkimaohcmcfcnaaGreat
open Go.Ab

structure Drawn (p : Int) (bs : List Bk) : Prop where
  pts : 3 <= p /\ p <= 15
  len : bs.length <= 200
  good : ∀ b ∈ bs, good p b = true
theorem Drawn.good15 {p : Int} {bs : List Bk} (h : Drawn p bs) : ∀ b ∈ bs, Ab.good 15 b = true := fun b hb => by
  have := good_iff.1 (h.good b hb)
  have := h.pts
  exact good_iff.2 ⟨by omega, by omega, by omega, by omega⟩

theorem pick_ok {L s : Nat} {H : Heap} (hs : Src L s H) {id : Nat} {xs : List Int} (hb : H[id]? = some ⟨ints xs, true, true⟩) (hid : id ≠ s) (hne : 0 < xs.length) (hxl : xs.length <= 1000) (Post : Value -> Heap -> Prop)
    (h : ∀ (H' : Heap) (x : Int), Same (fun j => j = s) H H' -> H'.length = H.length -> Src L s H' -> x ∈ xs -> Post (.int .i64 x) H') :
    ACalls Tryz.prog 28 [.pointer (some ⟨s, 0, none⟩), .slice (some ⟨id, 0, none⟩) xs.length xs.length] H Post := by
  refine acalls_vc (rs := [.tmp 4]) Tryz.func28 rfl rfl Tryz.ntmps28 rfl rfl ?_
  simp (maxSteps := 1000000) [go_sem]
  refine next_ok hs _ ?_
  intro H' r hs1 hl1 hS1 h0 h1
  obtain ⟨r, rfl⟩ : ∃ n : Nat, r = n := ⟨r.toNat, by omega⟩
  have hr : r < xs.length := by omega
  have hb1 := hs1.get hb hid
  have lc : cellsAt H' id r 1 = some [.int .i64 xs[r]] := Holds.cell ⟨true, hb1⟩ (by simp [ints, hr])
  simp (maxSteps := 1000000) [go_sem, hr, lc]
  exact h H' _ hs1 hl1 hS1 (List.getElem_mem hr)

theorem l01RenamedG_ok {H : Heap} {u w : Value} {p : Int} {bs : List Bk} {xs : List Int} (hu : BlocksAt H u bs) (hw : IntsAt H w xs) (hpx : 3 <= p /\ p <= 15) (hlb : bs.length <= 1000) (hgd : ∀ b ∈ bs, good p b = true) (hO : OrdL p xs) (Post : Value -> Heap -> Prop)
    (h : ∀ H' z, H <+: H' -> BlocksIn H.length H'.length H' z (sortB (bs.map (renB xs))) -> Post (sysV p z) H') :
    ACalls Tryz.prog 69 [sysV p u, w] H Post := by
  obtain ⟨i, o, rfl, h1, h2⟩ := hu
  obtain ⟨j, q, rfl, h3, h4⟩ := hw
  have hxl : (xs.length : Int) = p := hO.1
  refine acalls_vc (rs := [.cell 4 60]) Tryz.func69 rfl rfl Tryz.ntmps69 rfl rfl ?_
  simp (maxSteps := 1000000) [go_sem, sysV]
  have hp0 : H <+: H ++ [⟨[.int .i64 p, lv 3 i o bs.length], true, true⟩, ⟨[.int .i64 0, .slice none 0 0], true, true⟩] := List.prefix_append _ _
  have hx0 : Holds (H ++ [⟨[.int .i64 p, lv 3 i o bs.length], true, true⟩, ⟨[.int .i64 0, .slice none 0 0], true, true⟩]) H.length [.int .i64 p, lv 3 i o bs.length] := ⟨true, by simp⟩
  have hb0 : (H ++ [(⟨[.int .i64 p, lv 3 i o bs.length], true, true⟩ : Blk), ⟨[.int .i64 0, .slice none 0 0], true, true⟩])[H.length + 1]? = some ⟨[.int .i64 0, .slice none 0 0], true, true⟩ := by simp
  have hlen0 : (H ++ [(⟨[.int .i64 p, lv 3 i o bs.length], true, true⟩ : Blk), ⟨[.int .i64 0, .slice none 0 0], true, true⟩]).length = H.length + 2 := by simp
  rw [show H ++ [(⟨[.int .i64 p, lv 3 i o bs.length], true, true⟩ : Blk), ⟨[.int .i64 0, .slice none 0 0], true, true⟩, ⟨[], true, true⟩] = (H ++ [(⟨[.int .i64 p, lv 3 i o bs.length], true, true⟩ : Blk), ⟨[.int .i64 0, .slice none 0 0], true, true⟩]) ++ [⟨[], true, true⟩] by simp]
  generalize H ++ [(⟨[.int .i64 p, lv 3 i o bs.length], true, true⟩ : Blk), ⟨[.int .i64 0, .slice none 0 0], true, true⟩] = H0 at hp0 hx0 hb0 hlen0 ⊢
  have hbl0 := Bl.nil 3 H0
  generalize H0 ++ [(⟨[], true, true⟩ : Blk)] = HG at hbl0 ⊢
  refine AWp.loopVc (St := Nat × Nat) (fun s => [(1, lv 1 j q xs.length), (2, .pointer (some ⟨H.length, 0, none⟩)), (4, .pointer (some ⟨H.length + 1, 0, none⟩)), (5, lv 3 s.2 0 s.1), (6, .int .i64 s.1)])
    (fun s H' => s.1 <= bs.length /\ Bl 3 H0 H' s.2 (tri ((bs.take s.1).map (renB xs))) s.1) (fun s => bs.length - s.1) (0, H0.length) ?_ ?_ ?_
  · simp [upF, Fr.get, Up.refl, Up.ex0]
  · exact ⟨by simp, by simpa [tri] using hbl0⟩
  · rintro K ⟨s, id⟩ H' ⟨hs, hbl⟩ hK
    simp only at hs hbl
    obtain ⟨d0, d1, d2⟩ := (hx0.pre hbl.1).sys
    by_cases hlt : s < bs.length
    · have hbs : bs[s]? = some bs[s] := List.getElem?_eq_getElem hlt
      have c1 := (h1.pre (hp0.trans hbl.1)).bk hbs
      simp only [Bk.cells] at c1
      have hw_s : IntKind.i64.wrap ((s : Int) + 1) = (s : Int) + 1 := i64w (by omega) (by omega)
      have hgd : good p bs[s] = true := hgd bs[s] (List.getElem_mem hlt)
      obtain ⟨b, hb⟩ : ∃ b, bs[s] = b := ⟨_, rfl⟩
      rw [hb] at c1 hbs hgd
      have hg' := good_iff.1 hgd
      obtain ⟨x, y, z, rfl, hxy, hyz, hz15⟩ := good_nat hgd hpx.2
      simp only at hg' c1
      have lx : x < xs.length := by omega
      have ly : y < xs.length := by omega
      have lz : z < xs.length := by omega
      have bx := hO.bound hpx.2 lx
      have by' := hO.bound hpx.2 ly
      have bz := hO.bound hpx.2 lz
      simp (maxSteps := 1000000) [go_sem, hlt, c1, d0, d1, d2]
      have hpb : H' <+: H' ++ [⟨[.int .i64 x, .int .i64 y, .int .i64 z], true, true⟩] := List.prefix_append _ _
      have hxb := Holds.last H' [.int .i64 x, .int .i64 y, .int .i64 z]
      have hbl1 := hbl.pre hpb
      generalize H' ++ [(⟨[.int .i64 x, .int .i64 y, .int .i64 z], true, true⟩ : Blk)] = H1 at *
      obtain ⟨e0, e1, e2, e3⟩ := hxb.bk
      have hx3 := h3.pre (hp0.trans hbl1.1)
      have f1 := hx3.cell (k := x) (v := .int .i64 (nthI xs x)) (by simp [ints, nthI_in lx])
      have f2 := hx3.cell (k := y) (v := .int .i64 (nthI xs y)) (by simp [ints, nthI_in ly])
      have f3 := hx3.cell (k := z) (v := .int .i64 (nthI xs z)) (by simp [ints, nthI_in lz])
      refine AWp.draw mixed [(0, false), (1, false), (2, false), (3, false), (4, false), (5, false), (6, false), (7, false), (8, false), (9, false), (10, false), (11, false), (12, false), (13, false), (14, false), (15, false), (16, false), (17, false), (18, false), (19, false)] (by kernel_rfl) ?_
      simp (maxSteps := 1000000) [go_sem, e1, e2, e3, f1, f2, f3, lx, ly, lz]
      refine l01Block_ok (by omega) (by omega) (by omega) _ ?_
      intro H2 hp2
      have hcb : renB xs ⟨x, y, z⟩ = blk (nthI xs x) (nthI xs y) (nthI xs z) := rfl
      rw [<- hcb]
      obtain ⟨c, hc⟩ : ∃ c, renB xs ⟨x, y, z⟩ = c := ⟨_, rfl⟩
      rw [hc]
      have hsn : (bs.take (s + 1)).map (renB xs) = (bs.take s).map (renB xs) ++ [c] := by rw [List.take_succ_eq_append_getElem hlt, hb, List.map_append]; simp [hc]
      obtain ⟨hsrc, H5, hap, hbl5⟩ := (hbl1.pre hp2).push (xs := c.cells) (by omega) rfl
      simp only [Bk.cells] at hsrc hap hbl5
      simp (maxSteps := 1000000) [go_sem, Bk.val, hw_s, hsrc, hap]
      refine andK_intro (by omega) (hK (s + 1, H2.length + 1) _ _ (by simp only; omega) (by simp [upF, Fr.get, Up.refl]) ⟨by simp only; omega, ?_⟩)
      simp only [hsn, tri_append, tri_one, Bk.cells]
      exact hbl5
    · have : s = bs.length := by omega
      subst this
      rw [List.take_length] at hbl
      have hlm : (bs.map (renB xs)).length = bs.length := List.length_map _
      have hown : BlocksIn H0.length H'.length H' (lv 3 id 0 bs.length) (bs.map (renB xs)) := by
        rw [<- hlm]
        exact OwnBlocks.inn (OwnBlocks.of_ol (by rw [hlm]; exact hbl.2.1) (by omega)) hbl.2.2
      simp (maxSteps := 1000000) [go_sem, d0, d1, d2]
      refine l01Made_ok hown.read (by omega) _ ?_
      intro H2 z hp2 hz
      obtain ⟨q1, q2, q3, q4⟩ := put2 (cs := [.int .i64 p, z]) hp0 (show H.length <= H.length + 1 by omega) hb0 rfl (hbl.1.trans hp2) rfl (by simp [one_int, hz.one])
      have hll := hbl.1.length_le
      have fin := h _ z q3 (by rw [List.length_set]; exact (hz.keep q4 (fun j hj e => by have := hj.1; omega)).wider (by omega))
      simp (maxSteps := 1000000) [go_sem, sysV, q1, q2]
      exact fin

end Go.Proofs.YtkimaohcmcfcnaaGreat
end

section
namespace Go.Proofs.YtkimaohcmcfcnaaGreat
open Go.Ab

theorem same_set2 {H : Heap} {id : Nat} {b : Blk} : Same (fun j => j = id) H (H.set id b) := ⟨by simp, fun j hj hS => List.getElem?_set_ne (fun e => hS e.symm)⟩
theorem sameUp {s : Nat} {H H' H2 : Heap} {S : Nat -> Prop} (h : Same (fun j => j = s) H H') (h2 : Same S H' H2) (hi : ∀ j, S j -> H.length <= j) : Same (fun j => j = s) H H2 :=
  ⟨Nat.le_trans h.1 h2.1, fun j hj hS => (h2.2 j (Nat.lt_of_lt_of_le hj h.1) (fun e => by have := hi j e; omega)).trans (h.2 j hj hS)⟩
theorem sys_cells {H : Heap} {id : Nat} {p : Int} {u : Value} (h : H[id]? = some ⟨[.int .i64 p, u], true, true⟩) (hu : u.oneCell' = true) :
    cellsAt H id 0 2 = some [.int .i64 p, u] /\ cellsAt H id 0 1 = some [.int .i64 p] /\ cellsAt H id 1 1 = some [u] /\ ∀ (q : Int) (w : Value), w.oneCell' = true -> storeAt H id 0 [.int .i64 q, w] = some (H.set id ⟨[.int .i64 q, w], true, true⟩) := by
  have hh : Holds H id [.int .i64 p, u] := ⟨true, h⟩
  obtain ⟨a, b, c⟩ := hh.sys
  refine ⟨a, b, c, fun q w hw => ?_⟩
  rw [storeAt_of h rfl rfl (by simp) (by simp [hw, one_int])]; simp [over]
end Go.Proofs.YtkimaohcmcfcnaaGreat
end

section
namespace Go.Proofs.YtkimaohcmcfcnaaGreat
open Go.Ab

theorem third_in {p : Nat} {bs : List Bk} (hg : ∀ b ∈ bs, good p b = true) {q r : Nat} (hqr : q ≠ r) (h : ¬ third bs q r < 0) : ∃ t : Nat, third bs q r = t /\ t < p /\ t ≠ q /\ t ≠ r := by
  obtain ⟨x, hx, h1, h2, h3⟩ := third_some hg (p := q) (q := r) (by omega) (fun e => by rw [e] at h; omega)
  have g := good_iff.1 (hg x hx)
  rw [Bk.has_iff] at h1 h2
  refine ⟨(third bs q r).toNat, by omega, ?_, ?_, ?_⟩ <;> (rcases h1 with h1 | h1 | h1 <;> rcases h2 with h2 | h2 | h2 <;> omega)
theorem ord_at {p : Nat} {xs : List Int} (hO : OrdL p xs) {i : Nat} (hi : i < p) : ∃ c : Nat, xs[i]? = some (c : Int) /\ c < p := by
  have hl : i < xs.length := by have := hO.1; omega
  have h := hO.2.2 xs[i] (List.getElem_mem hl)
  exact ⟨xs[i].toNat, by rw [List.getElem?_eq_getElem hl]; congr 1; omega, by omega⟩
theorem ord_ne {p : Nat} {xs : List Int} (hO : OrdL p xs) {i j : Nat} {c d : Nat} (hi : xs[i]? = some (c : Int)) (hj : xs[j]? = some (d : Int)) (hij : i ≠ j) : c ≠ d := by
  rintro rfl
  obtain ⟨h1, _⟩ := List.getElem?_eq_some_iff.1 hi
  rw [<- hj] at hi
  exact hij ((List.getElem?_inj h1 hO.2.1).1 hi)

def BIn (lo : Nat) (H : Heap) (u : Value) (bs : List Bk) : Prop := ∃ b, BlocksIn lo b H u bs
theorem BIn.keep {lo : Nat} {H H' : Heap} {u : Value} {bs : List Bk} (h : BIn lo H u bs) {S : Nat -> Prop} (hs : Same S H H') (hd : ∀ j, lo <= j -> ¬ S j) : BIn lo H' u bs := by
  obtain ⟨b, h⟩ := h
  exact ⟨b, h.keep hs (fun j hj => hd j hj.1)⟩
theorem BIn.pre {lo : Nat} {H H' : Heap} (hp : H <+: H') {u : Value} {bs : List Bk} (h : BIn lo H u bs) : BIn lo H' u bs := h.keep (S := fun _ => False) (Same.of_prefix hp) (fun _ _ e => e)
theorem BIn.read {lo : Nat} {H : Heap} {u : Value} {bs : List Bk} (h : BIn lo H u bs) : BlocksAt H u bs := by obtain ⟨b, h⟩ := h; exact h.read
theorem BIn.one {lo : Nat} {H : Heap} {u : Value} {bs : List Bk} (h : BIn lo H u bs) : u.oneCell' = true := by obtain ⟨b, h⟩ := h; exact h.one
theorem switched_ok {L s : Nat} {H : Heap} (hs : Src L s H) {p lo : Nat} {u : Value} {bs : List Bk} (hu : BIn lo H u bs) (hsl : s < lo) (hlo : lo <= H.length) (hd : Drawn p bs) (hlen : bs.length <= 150) (Post : Value -> Heap -> Prop)
    (h : ∀ (H' : Heap) (w : Value) (cs : List Bk), Same (fun j => j = s) H H' -> Src L s H' -> BIn lo H' w cs -> Drawn p cs -> cs.length <= bs.length + 4 -> Post (sysV p w) H') :
    ACalls Tryz.prog 48 [.pointer (some ⟨s, 0, none⟩), sysV p u] H Post := by
  have hslt := hs.lt
  have oneu := hu.one
  have hp := hd.pts
  refine acalls_vc (rs := [.cell 4 60]) Tryz.func48 rfl rfl Tryz.ntmps48 rfl rfl ?_
  simp (maxSteps := 1000000) [go_sem, sysV, oneu]
  have hpA : H <+: H ++ [⟨[.int .i64 p, u], true, true⟩, ⟨[.int .i64 0, .slice none 0 0], true, true⟩] := List.prefix_append _ _
  have hlA : (H ++ [(⟨[.int .i64 p, u], true, true⟩ : Blk), ⟨[.int .i64 0, .slice none 0 0], true, true⟩]).length = H.length + 2 := by simp
  have hxA : (H ++ [(⟨[.int .i64 p, u], true, true⟩ : Blk), ⟨[.int .i64 0, .slice none 0 0], true, true⟩])[H.length]? = some ⟨[.int .i64 p, u], true, true⟩ := by simp
  have hrA : (H ++ [(⟨[.int .i64 p, u], true, true⟩ : Blk), ⟨[.int .i64 0, .slice none 0 0], true, true⟩])[H.length + 1]? = some ⟨[.int .i64 0, .slice none 0 0], true, true⟩ := by simp
  generalize H ++ [(⟨[.int .i64 p, u], true, true⟩ : Blk), ⟨[.int .i64 0, .slice none 0 0], true, true⟩] = HA at hpA hlA hxA hrA ⊢
  refine drawOrder_ok (hs.pre hpA) (by omega) _ ?_
  intro H1 w ord hs1 hS1 hI1 hO1
  have hle1 := hs1.1
  have hx1 := hs1.get hxA (by omega)
  have hr1 := hs1.get hrA (by omega)
  have hu1 := (hu.pre hpA).keep hs1 (fun j hj e => by omega)
  have hsm1 : Same (fun j => j = s) H H1 := (Same.of_prefix hpA).trans hs1
  obtain ⟨oid, ⟨rfl, hoat, hosz⟩, _⟩ := hI1
  have hol : ord.length = p := by have := hO1.1; omega
  have hoh : Holds H1 oid (ints ord) := ⟨true, hoat.resolve_left (by intro e; rw [e] at hol; simp at hol; omega)⟩
  obtain ⟨a, o0, ha⟩ := ord_at hO1 (i := 0) (by omega)
  obtain ⟨b, o1, hb⟩ := ord_at hO1 (i := 1) (by omega)
  have hab := ord_ne hO1 o0 o1 (by omega)
  have l0 := hoh.cell (o := 0) (v := .int .i64 a) (by simp only [ints_get, o0]; rfl)
  have l1 := hoh.cell (o := 1) (v := .int .i64 b) (by simp only [ints_get, o1]; rfl)
  have q0 : 0 < ord.length := by omega
  have q1 : 1 < ord.length := by omega
  have q1' : (1 : Int) < ord.length := by omega
  simp (maxSteps := 1000000) [go_sem]
  refine AWp.draw mixed [(0, false), (1, false), (2, false), (3, false), (4, false), (5, false), (6, false), (7, false)] (by kernel_rfl) ?_
  simp (maxSteps := 1000000) [go_sem, l0, l1, q0, q1, q1']
  rw [hol]
  refine AWp.loopVc (St := Nat) (fun i => [(3, .pointer (some ⟨H.length, 0, none⟩)), (4, .pointer (some ⟨H.length + 1, 0, none⟩)), (5, lv 1 oid 0 p), (6, .int .i64 a), (7, .int .i64 b), (8, .int .i64 i)])
    (fun i H' => i <= p /\ 2 <= i /\ H1 <+: H') (fun i => p - i) 2 ?_ ?_ ?_
  · simp [upF, Fr.get, Up.refl]
  · exact ⟨by omega, by omega, List.prefix_refl _⟩
  · rintro K i H2 ⟨hip, hi2, hp12⟩ hK
    have hx2 := pget hp12 hx1
    have hr2 := pget hp12 hr1
    obtain ⟨x0, x1, x2, x3⟩ := sys_cells hx2 oneu
    by_cases hlt : i < p
    · obtain ⟨c, oi, hc⟩ := ord_at hO1 hlt
      have hca := ord_ne hO1 oi o0 (by omega)
      have hcb := ord_ne hO1 oi o1 (by omega)
      have li := (hoh.pre hp12).cell (o := i) (v := .int .i64 c) (by simp only [ints_get, oi]; rfl)
      have hw_i : IntKind.i64.wrap ((i : Int) + 1) = (i : Int) + 1 := i64w (by omega) (by omega)
      have next : ∀ (H' : Heap) (fr' : Fr), H2 <+: H' -> upF H' [(3, .pointer (some ⟨H.length, 0, none⟩)), (4, .pointer (some ⟨H.length + 1, 0, none⟩)), (5, lv 1 oid 0 p), (6, .int .i64 a), (7, .int .i64 b), (8, .int .i64 ((i : Int) + 1))] fr' -> K fr' H' :=
        fun H' fr' e1 e2 => hK (i + 1) fr' H' (by omega) (by simpa using e2) ⟨by omega, by omega, hp12.trans e1⟩
      simp (maxSteps := 1000000) [go_sem, hlt, li, x0]
      refine l01Third_ok (hu1.read.pre hp12) hd.good15 _ ?_
      intro H3 hp3
      obtain ⟨E, hE⟩ : ∃ E, third bs a c = E := ⟨_, rfl⟩
      rw [hE]
      obtain ⟨x0, x1, x2, x3⟩ := sys_cells (pget hp3 hx2) oneu
      simp (maxSteps := 1000000) [go_sem, x0]
      refine l01Third_ok (hu1.read.pre (hp12.trans hp3)) hd.good15 _ ?_
      intro H4 hp4
      obtain ⟨F, hF⟩ : ∃ F, third bs b c = F := ⟨_, rfl⟩
      rw [hF]
      have hp24 := hp3.trans hp4
      have hx4 := pget hp24 hx2
      obtain ⟨x0, x1, x2, x3⟩ := sys_cells hx4 oneu
      by_cases hE0 : E < 0
      · simp (maxSteps := 1000000) [go_sem, undef, hE0, hw_i]
        exact next H4 _ hp24 (by simp [upF, Fr.get, Up.refl])
      by_cases hF0 : F < 0
      · simp (maxSteps := 1000000) [go_sem, undef, hE0, hF0, hw_i]
        exact next H4 _ hp24 (by simp [upF, Fr.get, Up.refl])
      by_cases hEb : E = b
      · subst hEb
        simp (maxSteps := 1000000) [go_sem, undef, hE0, hF0, hw_i]
        exact next H4 _ hp24 (by simp [upF, Fr.get, Up.refl])
      by_cases hFa : F = a
      · subst hFa
        have hEb' : (E == (b : Int)) = false := by simpa using hEb
        simp (maxSteps := 1000000) [go_sem, undef, hE0, hF0, hEb', hw_i]
        exact next H4 _ hp24 (by simp [upF, Fr.get, Up.refl])
      obtain ⟨e, he, hep, hea, hec⟩ := third_in hd.good (q := a) (r := c) (by omega) (by omega)
      obtain ⟨f, hf, hfp, hfb, hfc⟩ := third_in hd.good (q := b) (r := c) (by omega) (by omega)
      rw [hE] at he
      rw [hF] at hf
      subst he
      subst hf
      have hEb' : ((e : Int) == (b : Int)) = false := by simp; omega
      have hFa' : ((f : Int) == (a : Int)) = false := by simp; omega
      simp (maxSteps := 1000000) [go_sem, undef, hE0, hF0, hEb', hFa', hEb, hFa, hw_i, x0]
      refine l01Third_ok (hu1.read.pre (hp12.trans hp24)) hd.good15 _ ?_
      intro H5 hp5
      obtain ⟨D, hD⟩ : ∃ D, third bs a f = D := ⟨_, rfl⟩
      rw [hD]
      have hp25 := hp24.trans hp5
      obtain ⟨x0, x1, x2, x3⟩ := sys_cells (pget hp25 hx2) oneu
      by_cases hD0 : D < 0
      · simp (maxSteps := 1000000) [go_sem, undef, hD0, hw_i]
        exact next H5 _ hp25 (by simp [upF, Fr.get, Up.refl])
      by_cases hDb : D = b
      · subst hDb
        simp (maxSteps := 1000000) [go_sem, undef, hD0, hw_i]
        exact next H5 _ hp25 (by simp [upF, Fr.get, Up.refl])
      obtain ⟨d, hd', hdp, hda, hdf⟩ := third_in hd.good (q := a) (r := f) (by omega) (by omega)
      rw [hD] at hd'
      subst hd'
      have hDb' : ((d : Int) == (b : Int)) = false := by simp; omega
      simp (maxSteps := 1000000) [go_sem, undef, hD0, hDb', x0]
      refine l01Third_ok (hu1.read.pre (hp12.trans hp25)) hd.good15 _ ?_
      intro H6 hp6
      obtain ⟨G, hG⟩ : ∃ G, third bs b e = G := ⟨_, rfl⟩
      rw [hG]
      have hp26 := hp25.trans hp6
      by_cases hGd : G ≠ (d : Int)
      · have hGd' : (G != (d : Int)) = true := by simpa using hGd
        simp (maxSteps := 1000000) [go_sem, undef, hGd', hw_i]
        exact next H6 _ hp26 (by simp [upF, Fr.get, Up.refl])
      have hGd := Classical.not_not.1 hGd
      subst hGd
      obtain ⟨d2, hd2, _, hdb2, hde2⟩ := third_in hd.good (q := b) (r := e) (by omega) (by omega)
      have hd2' : d2 = d := by omega
      subst hd2'
      have g1 : good (p : Int) (blk (b : Int) c e) = true := blk_good.2 ⟨by omega, by omega, by omega, by omega, by omega, by omega⟩
      have g2 : good (p : Int) (blk (b : Int) d2 f) = true := blk_good.2 ⟨by omega, by omega, by omega, by omega, by omega, by omega⟩
      have g3 : good (p : Int) (blk (a : Int) c f) = true := blk_good.2 ⟨by omega, by omega, by omega, by omega, by omega, by omega⟩
      have g4 : good (p : Int) (blk (a : Int) d2 e) = true := blk_good.2 ⟨by omega, by omega, by omega, by omega, by omega, by omega⟩
      simp (maxSteps := 1000000) [go_sem, undef]
      obtain ⟨B1, hB1⟩ : ∃ B, blk (b : Int) c e = B := ⟨_, rfl⟩
      rw [hB1] at g1
      obtain ⟨B2, hB2⟩ : ∃ B, blk (b : Int) d2 f = B := ⟨_, rfl⟩
      rw [hB2] at g2
      obtain ⟨B3, hB3⟩ : ∃ B, blk (a : Int) c f = B := ⟨_, rfl⟩
      rw [hB3] at g3
      obtain ⟨B4, hB4⟩ : ∃ B, blk (a : Int) d2 e = B := ⟨_, rfl⟩
      rw [hB4] at g4
      obtain ⟨O1, hO1⟩ : ∃ B, blk (a : Int) c e = B := ⟨_, rfl⟩
      obtain ⟨O2, hO2⟩ : ∃ B, blk (a : Int) d2 f = B := ⟨_, rfl⟩
      obtain ⟨O3, hO3⟩ : ∃ B, blk (b : Int) c f = B := ⟨_, rfl⟩
      obtain ⟨O4, hO4⟩ : ∃ B, blk (b : Int) d2 e = B := ⟨_, rfl⟩
      refine l01Block_ok (a := (b : Int)) (b := (c : Int)) (c := (e : Int)) ⟨by omega, by omega⟩ ⟨by omega, by omega⟩ ⟨by omega, by omega⟩ _ ?_
      rw [hB1]
      intro H7 hp7
      simp (maxSteps := 1000000) [go_sem, Bk.val]
      refine l01Block_ok (a := (b : Int)) (b := (d2 : Int)) (c := (f : Int)) ⟨by omega, by omega⟩ ⟨by omega, by omega⟩ ⟨by omega, by omega⟩ _ ?_
      rw [hB2]
      intro H8 hp8
      simp (maxSteps := 1000000) [go_sem, Bk.val]
      refine l01Block_ok (a := (a : Int)) (b := (c : Int)) (c := (f : Int)) ⟨by omega, by omega⟩ ⟨by omega, by omega⟩ ⟨by omega, by omega⟩ _ ?_
      rw [hB3]
      intro H9 hp9
      simp (maxSteps := 1000000) [go_sem, Bk.val]
      refine l01Block_ok (a := (a : Int)) (b := (d2 : Int)) (c := (e : Int)) ⟨by omega, by omega⟩ ⟨by omega, by omega⟩ ⟨by omega, by omega⟩ _ ?_
      rw [hB4]
      intro H10 hp10
      simp (maxSteps := 1000000) [go_sem, Bk.val]
      have hT := List.getElem?_concat_length (l := H10) (a := (⟨[.int .i64 B1.a, .int .i64 B1.b, .int .i64 B1.c, .int .i64 B2.a, .int .i64 B2.b, .int .i64 B2.c, .int .i64 B3.a, .int .i64 B3.b, .int .i64 B3.c, .int .i64 B4.a, .int .i64 B4.b, .int .i64 B4.c], true, true⟩ : Blk))
      have hpT : H10 <+: H10 ++ [⟨[.int .i64 B1.a, .int .i64 B1.b, .int .i64 B1.c, .int .i64 B2.a, .int .i64 B2.b, .int .i64 B2.c, .int .i64 B3.a, .int .i64 B3.b, .int .i64 B3.c, .int .i64 B4.a, .int .i64 B4.b, .int .i64 B4.c], true, true⟩] := List.prefix_append _ _
      have hlT : (H10 ++ [(⟨[.int .i64 B1.a, .int .i64 B1.b, .int .i64 B1.c, .int .i64 B2.a, .int .i64 B2.b, .int .i64 B2.c, .int .i64 B3.a, .int .i64 B3.b, .int .i64 B3.c, .int .i64 B4.a, .int .i64 B4.b, .int .i64 B4.c], true, true⟩ : Blk)]).length = H10.length + 1 := by simp
      generalize H10 ++ [(⟨[.int .i64 B1.a, .int .i64 B1.b, .int .i64 B1.c, .int .i64 B2.a, .int .i64 B2.b, .int .i64 B2.c, .int .i64 B3.a, .int .i64 B3.b, .int .i64 B3.c, .int .i64 B4.a, .int .i64 B4.b, .int .i64 B4.c], true, true⟩ : Blk)] = H11 at hT hpT hlT ⊢
      have hbl11 : Bl 3 H10 H11 H10.length (tri [B1, B2, B3, B4]) 4 := ⟨hpT, ⟨rfl, .inr hT⟩, Nat.le_refl _⟩
      refine l01Block_ok (a := (a : Int)) (b := (c : Int)) (c := (e : Int)) ⟨by omega, by omega⟩ ⟨by omega, by omega⟩ ⟨by omega, by omega⟩ _ ?_
      rw [hO1]
      intro H12 hp12o
      simp (maxSteps := 1000000) [go_sem, Bk.val]
      refine l01Block_ok (a := (a : Int)) (b := (d2 : Int)) (c := (f : Int)) ⟨by omega, by omega⟩ ⟨by omega, by omega⟩ ⟨by omega, by omega⟩ _ ?_
      rw [hO2]
      intro H13 hp13
      simp (maxSteps := 1000000) [go_sem, Bk.val]
      refine l01Block_ok (a := (b : Int)) (b := (c : Int)) (c := (f : Int)) ⟨by omega, by omega⟩ ⟨by omega, by omega⟩ ⟨by omega, by omega⟩ _ ?_
      rw [hO3]
      intro H14 hp14
      simp (maxSteps := 1000000) [go_sem, Bk.val]
      refine l01Block_ok (a := (b : Int)) (b := (d2 : Int)) (c := (e : Int)) ⟨by omega, by omega⟩ ⟨by omega, by omega⟩ ⟨by omega, by omega⟩ _ ?_
      rw [hO4]
      intro H15 hp15
      simp (maxSteps := 1000000) [go_sem, Bk.val]
      have hO := List.getElem?_concat_length (l := H15) (a := (⟨[.int .i64 O1.a, .int .i64 O1.b, .int .i64 O1.c, .int .i64 O2.a, .int .i64 O2.b, .int .i64 O2.c, .int .i64 O3.a, .int .i64 O3.b, .int .i64 O3.c, .int .i64 O4.a, .int .i64 O4.b, .int .i64 O4.c], true, true⟩ : Blk))
      have hpO : H15 <+: H15 ++ [⟨[.int .i64 O1.a, .int .i64 O1.b, .int .i64 O1.c, .int .i64 O2.a, .int .i64 O2.b, .int .i64 O2.c, .int .i64 O3.a, .int .i64 O3.b, .int .i64 O3.c, .int .i64 O4.a, .int .i64 O4.b, .int .i64 O4.c], true, true⟩] := List.prefix_append _ _
      generalize H15 ++ [(⟨[.int .i64 O1.a, .int .i64 O1.b, .int .i64 O1.c, .int .i64 O2.a, .int .i64 O2.b, .int .i64 O2.c, .int .i64 O3.a, .int .i64 O3.b, .int .i64 O3.c, .int .i64 O4.a, .int .i64 O4.b, .int .i64 O4.c], true, true⟩ : Blk)] = H16 at hO hpO ⊢
      have hp1116 : H11 <+: H16 := (((hp12o.trans hp13).trans hp14).trans hp15).trans hpO
      have hp210 : H2 <+: H10 := (((hp26.trans hp7).trans hp8).trans hp9).trans hp10
      have hbl16 := hbl11.pre hp1116
      have hoO : Holds H16 H15.length (tri [O1, O2, O3, O4]) := ⟨true, hO⟩
      have le10 := (hp12.trans hp210).length_le
      have k0 : (tri [O1, O2, O3, O4])[0]? = some (.int .i64 O1.a) := rfl
      have uat := hu1.read.pre (hp12.trans hp210)
      have hx10 := pget hp210 hx2
      have hr10 := pget hp210 hr2
      obtain ⟨ui, uo, rfl, uat0, usz⟩ := uat
      refine AWp.loopVc (St := Nat × Nat × List Bk) (fun q => [(3, .pointer (some ⟨H.length, 0, none⟩)), (4, .pointer (some ⟨H.length + 1, 0, none⟩)), (13, lv 3 q.2.1 0 q.2.2.length), (14, .slice (some ⟨H15.length, 0, none⟩) 4 4), (15, .int .i64 q.1)])
        (fun q H' => q.1 <= bs.length /\ Bl 3 H10 H' q.2.1 (tri q.2.2) q.2.2.length /\ (∀ x ∈ q.2.2, good (p : Int) x = true) /\ q.2.2.length <= q.1 + 4 /\ Holds H' H15.length (tri [O1, O2, O3, O4]) /\ q.2.1 ≠ H15.length) (fun q => bs.length - q.1) (0, H10.length, [B1, B2, B3, B4]) ?_ ?_ ?_
      · simp [upF, Fr.get, Up.refl]
        exact Up.ex (by omega) (.inr (by rw [cellsAt_of (hbl16.2.1.2.resolve_left (by omega)) rfl (by simp [tri_length])]; rfl))
      · exact ⟨by omega, hbl16, by intro x hx; simp at hx; rcases hx with rfl | rfl | rfl | rfl <;> assumption, by simp, hoO, by simp only; have := (((hp12o.trans hp13).trans hp14).trans hp15).length_le; omega⟩
      · rintro K9 ⟨k, id, acc⟩ H17 ⟨hk, hbl, hga, hla, hoh17, hidn⟩ hK9
        simp only at hk hbl hga hla hidn
        have hx17 := Same.get (S := fun _ => False) (Same.of_prefix hbl.1) hx10 (fun e => e)
        have hr17 := Same.get (S := fun _ => False) (Same.of_prefix hbl.1) hr10 (fun e => e)
        obtain ⟨x0, x1, x2, x3⟩ := sys_cells hx17 oneu
        have uat17 := uat0.pre hbl.1
        by_cases hkb : k < bs.length
        · have c1 := uat17.bk (List.getElem?_eq_getElem hkb)
          have gk := hd.good bs[k] (List.getElem_mem hkb)
          simp only [Bk.cells] at c1
          generalize bs[k] = Z at *
          have z1 := hoh17.cells (o := 0) (n := 3) (by simp [tri_length])
          have z2 := hoh17.cells (o := 3) (n := 3) (by simp [tri_length])
          have z3 := hoh17.cells (o := 6) (n := 3) (by simp [tri_length])
          have z4 := hoh17.cells (o := 9) (n := 3) (by simp [tri_length])
          simp [tri, Bk.cells] at z1 z2 z3 z4
          have hw_k : IntKind.i64.wrap ((k : Int) + 1) = (k : Int) + 1 := i64w (by omega) (by omega)
          simp (maxSteps := 1000000) [go_sem, hkb, x1, x2]
          refine AWp.draw mixed [(0, false), (1, false), (2, false), (3, false), (4, false), (5, false), (6, false), (7, false), (8, false), (9, false), (10, false), (11, false), (12, false), (13, false), (14, false), (15, false), (16, false), (17, false), (18, false), (19, false), (20, false), (21, false), (22, false), (23, false), (24, false), (25, false), (26, false), (27, false), (28, false), (29, false), (30, false), (31, false), (32, false), (33, false), (34, false), (35, false), (36, false), (37, false), (38, false), (39, false), (40, false), (41, false)] (by kernel_rfl) ?_
          simp (maxSteps := 1000000) [go_sem, hkb, x1, x2, c1, z1, z2, z3, z4]
          have stay : ∀ fr', upF H17 [(3, .pointer (some ⟨H.length, 0, none⟩)), (4, .pointer (some ⟨H.length + 1, 0, none⟩)), (13, lv 3 id 0 acc.length), (14, .slice (some ⟨H15.length, 0, none⟩) 4 4), (15, .int .i64 ((k : Int) + 1))] fr' -> K9 fr' H17 :=
            fun fr' hf => hK9 (k + 1, id, acc) fr' H17 (by simp only; omega) (by simpa using hf) ⟨by simp only; omega, hbl, hga, by simp only; omega, hoh17, hidn⟩
          obtain ⟨hsrc, H18, hap, hbl18, hsm18⟩ := hbl.pushS (xs := [.int .i64 Z.a, .int .i64 Z.b, .int .i64 Z.c]) (by omega) rfl
          have hoh18 : Holds H18 H15.length (tri [O1, O2, O3, O4]) := by
            obtain ⟨ow, ho⟩ := hoh17
            exact ⟨ow, hsm18.get ho (fun e => hidn e.symm)⟩
          have hl15 := (List.getElem?_eq_some_iff.1 hoh17.choose_spec).1
          refine condK_intro (fun _ => ?_) (fun _ => ?_)
          · refine condK_intro (fun _ => ?_) (fun _ => ?_)
            · refine condK_intro (fun _ => ?_) (fun _ => ?_)
              · refine condK_intro (fun _ => ?_) (fun _ => ?_)
                · simp (maxSteps := 1000000) [go_sem, hsrc, hap, hw_k]
                  refine andK_intro (by omega) (hK9 (k + 1, H17.length + 1, acc ++ [Z]) _ _ (by simp only; omega) (by simp [upF, Fr.get, Up.refl]) ⟨by simp only; omega, ?_, ?_, by simp; omega, hoh18, by simp only; omega⟩)
                  · simp only [tri_append, tri_one, Bk.cells, List.length_append, List.length_singleton]
                    exact hbl18
                  · intro x hx
                    rcases List.mem_append.1 hx with hx | hx
                    · exact hga x hx
                    · simp at hx; subst hx; exact gk
                · simp (maxSteps := 1000000) [go_sem, undef, hw_k]
                  exact stay _ (by simp [upF, Fr.get, Up.refl])
              · simp (maxSteps := 1000000) [go_sem, undef, hw_k]
                exact stay _ (by simp [upF, Fr.get, Up.refl])
            · simp (maxSteps := 1000000) [go_sem, undef, hw_k]
              exact stay _ (by simp [upF, Fr.get, Up.refl])
          · simp (maxSteps := 1000000) [go_sem, undef, hw_k]
            exact stay _ (by simp [upF, Fr.get, Up.refl])
        · have : k = bs.length := by omega
          subst this
          simp (maxSteps := 1000000) [go_sem, x0, x1, x2]
          have hown : BlocksIn H10.length H17.length H17 (lv 3 id 0 acc.length) acc := OwnBlocks.inn (OwnBlocks.of_ol hbl.2.1 (by omega)) hbl.2.2
          refine l01Made_ok hown.read (by omega) _ ?_
          intro H18 z hp18 hz
          have hr18 := pget hp18 hr17
          obtain ⟨r0, r1, r2, r3⟩ := sys_cells hr18 rfl
          have r3' := r3 p z hz.one
          have hs9 : Same (fun j => j = H.length + 1) H18 (H18.set (H.length + 1) ⟨[.int .i64 p, z], true, true⟩) := same_set2
          have hr9 : (H18.set (H.length + 1) ⟨[.int .i64 p, z], true, true⟩)[H.length + 1]? = some ⟨[.int .i64 p, z], true, true⟩ := List.getElem?_set_self (List.getElem?_eq_some_iff.1 hr18).1
          have hsm18 := hsm1.trans (Same.of_prefix (((hp12.trans hp210).trans hbl.1).trans hp18))
          have hS18 := (hS1.pre (((hp12.trans hp210).trans hbl.1).trans hp18))
          have hle17 := hbl.1.length_le
          have fin := h _ z (sortB acc) (sameUp hsm18 hs9 (fun j e => by omega)) (hS18.keep hs9 (fun j e => ⟨by have := hs.1; omega, by omega⟩)) ⟨_, (hz.keep hs9 (by rintro j ⟨e1, e2⟩ e; omega)).wider (by omega)⟩
            ⟨hd.pts, by rw [sortB_len]; omega, fun x hx => hga x ((sortB_perm _ _ rfl).mem_iff.1 hx)⟩ (by rw [sortB_len]; omega)
          generalize H18.set (H.length + 1) ⟨[.int .i64 p, z], true, true⟩ = H19 at *
          obtain ⟨y0, y1, y2, y3⟩ := sys_cells hr9 hz.one
          simp (maxSteps := 1000000) [go_sem, sysV, r3', y0]
          exact fin
    · have : i = p := by omega
      subst this
      simp (maxSteps := 1000000) [go_sem]
      obtain ⟨r0, r1, r2, r3⟩ := sys_cells hr2 rfl
      have r3' := r3 i u oneu
      have hs9 : Same (fun j => j = H.length + 1) H2 (H2.set (H.length + 1) ⟨[.int .i64 i, u], true, true⟩) := same_set2
      have hr9 : (H2.set (H.length + 1) ⟨[.int .i64 i, u], true, true⟩)[H.length + 1]? = some ⟨[.int .i64 i, u], true, true⟩ := List.getElem?_set_self (by have := hp12.length_le; omega)
      have hsm2 := hsm1.trans (Same.of_prefix hp12)
      have hL : L <= s := hs.1
      have fin := h _ u bs (sameUp hsm2 hs9 (fun j e => by omega)) ((hS1.pre hp12).keep hs9 (fun j e => ⟨by omega, by omega⟩)) (hu.keep (sameUp hsm2 hs9 (fun j e => by omega)) (fun j hj e => by omega)) hd (by omega)
      generalize H2.set (H.length + 1) ⟨[.int .i64 i, u], true, true⟩ = H9 at *
      obtain ⟨y0, y1, y2, y3⟩ := sys_cells hr9 oneu
      simp (maxSteps := 1000000) [go_sem, x0, r3', y0]
      exact fin

end Go.Proofs.YtkimaohcmcfcnaaGreat
end

section
namespace Go.Proofs.YtkimaohcmcfcnaaGreat
open Go.Ab

structure Rw where
  p : Int
  u : Value
  w : Value
  lo : Nat
  hi : Nat
  o : List Bk
  i : List Bk
def Rw.cells (r : Rw) : List Value := [.int .i64 r.p, r.u, r.w]
def Rw.t (r : Rw) : List Bk × List Bk := (r.o, r.i)
def cellsT (rows : List Rw) : List Value := rows.flatMap Rw.cells
theorem cellsT_len : ∀ rows : List Rw, (cellsT rows).length = rows.length * 3
  | [] => rfl
  | r :: rows => by rw [cellsT, List.flatMap_cons, List.length_append, <- cellsT, cellsT_len rows, List.length_cons]; simp [Rw.cells]; omega
theorem cellsT_append (a b : List Rw) : cellsT (a ++ b) = cellsT a ++ cellsT b := by simp [cellsT]
theorem cellsT_one (r : Rw) : cellsT [r] = r.cells := by simp [cellsT]
theorem rows_split {rows : List Rw} {s : Nat} {r : Rw} (h : rows[s]? = some r) : rows = rows.take s ++ r :: rows.drop (s + 1) /\ (rows.take s).length = s := by
  obtain ⟨hl, rfl⟩ := List.getElem?_eq_some_iff.1 h
  refine ⟨?_, by simp; omega⟩
  conv => lhs; rw [<- List.take_append_drop s rows, List.drop_eq_getElem_cons hl]
theorem cellsT_drop {rows : List Rw} {s : Nat} {r : Rw} (h : rows[s]? = some r) : (cellsT rows).drop (s * 3) = r.cells ++ cellsT (rows.drop (s + 1)) := by
  obtain ⟨e, hl⟩ := rows_split h
  conv => lhs; rw [e, cellsT_append]
  rw [List.drop_append_of_le_length (by rw [cellsT_len, hl]; omega), List.drop_of_length_le (by rw [cellsT_len, hl]; omega), List.nil_append]
  simp [cellsT]
theorem cellsT_get {rows : List Rw} {s : Nat} {r : Rw} (h : rows[s]? = some r) {j : Nat} (hj : j < 3) : (cellsT rows)[s * 3 + j]? = r.cells[j]? := by
  rw [<- List.getElem?_drop, cellsT_drop h, List.getElem?_append_left (by simp [Rw.cells]; omega)]
structure BuildT (H0 H : Heap) (oid : Nat) (rows : List Rw) : Prop where
  pre : H0 <+: H
  ol : OL 3 H oid (cellsT rows) rows.length
  ge : H0.length <= oid
  spans : ∀ r ∈ rows, H0.length <= r.lo /\ r.hi <= H.length /\ (oid < r.lo \/ r.hi <= oid) /\ TradeIn r.lo r.hi H r.u r.w r.o r.i
  asc : rows.Pairwise fun x y => x.hi <= y.lo
theorem BuildT.start (H : Heap) : BuildT H (H ++ [⟨[], false, false⟩]) H.length [] := ⟨List.prefix_append _ _, OL.ghost 3 H, Nat.le_refl _, by simp, List.Pairwise.nil⟩
theorem BuildT.nil (H : Heap) : BuildT H (H ++ [⟨[], true, true⟩]) H.length [] := ⟨List.prefix_append _ _, ⟨by simp [cellsT], .inr (by simp [cellsT])⟩, Nat.le_refl _, by simp, List.Pairwise.nil⟩
theorem BuildT.keep {H0 H H' : Heap} {oid : Nat} {rows : List Rw} (h : BuildT H0 H oid rows) (hp : H <+: H') : BuildT H0 H' oid rows :=
  ⟨h.pre.trans hp, h.ol.keep (S := fun _ => False) (Same.of_prefix hp) (fun h => h), h.ge, fun r hr => by
    obtain ⟨a, b, c, d⟩ := h.spans r hr; exact ⟨a, by have := hp.length_le; omega, c, d.pre hp⟩, h.asc⟩
theorem BuildT.lower {H0 H1 H : Heap} {oid : Nat} {rows : List Rw} (h : BuildT H1 H oid rows) (hp : H0 <+: H1) : BuildT H0 H oid rows :=
  ⟨hp.trans h.pre, h.ol, by have := hp.length_le; have := h.ge; omega, fun r hr => by
    obtain ⟨a, b, c, d⟩ := h.spans r hr; exact ⟨by have := hp.length_le; omega, b, c, d⟩, h.asc⟩
theorem BuildT.push {H0 H1 H2 : Heap} {oid : Nat} {rows : List Rw} {r : Rw} (h : BuildT H0 H1 oid rows) (hp : H1 <+: H2) (hr : TradeIn r.lo r.hi H2 r.u r.w r.o r.i) (hlo : H1.length <= r.lo) (hhi : r.hi <= H2.length) (hle : r.lo <= r.hi) :
    cellsAt (H2 ++ [⟨r.cells, true, true⟩]) H2.length 0 3 = some r.cells /\
    ∃ H4, appendH (H2 ++ [⟨r.cells, true, true⟩]) 3 (lv 3 oid 0 rows.length) 1 r.cells = some (lv 3 (H2.length + 1) 0 (rows.length + 1), H4) /\ BuildT H0 H4 (H2.length + 1) (rows ++ [r]) /\ Same (fun j => j = oid) H2 H4 := by
  have h2 := h.keep hp
  obtain ⟨hsrc, H4, hap, hol4, hs4, hl4⟩ := h2.ol.push (xs := r.cells) (by omega) rfl
  have hoid := h.ol.lt
  have hle1 := hp.length_le
  have hle0 := h.pre.length_le
  refine ⟨hsrc, H4, hap, ⟨((Same.of_prefix h2.pre).trans hs4).prefix (by have := h.ge; omega), ?_, by omega, ?_, ?_⟩, hs4⟩
  · rw [cellsT_append, cellsT_one]; simpa using hol4
  · intro x hx
    rcases List.mem_append.1 hx with hx | hx
    · obtain ⟨a, b, c, d⟩ := h.spans x hx
      exact ⟨a, by omega, .inr (by omega), (d.pre hp).keep hs4 (by rintro j ⟨e1, e2⟩ rfl; omega)⟩
    · simp at hx; subst hx
      exact ⟨by omega, by omega, .inr (by omega), hr.keep hs4 (by rintro j ⟨e1, e2⟩ rfl; omega)⟩
  · rw [List.pairwise_append]
    refine ⟨h.asc, List.pairwise_singleton _ _, ?_⟩
    intro x hx y hy
    simp at hy; subst hy
    have := (h.spans x hx).2.1
    omega

def TrIn (a b : Nat) (H : Heap) (v : Value) (p : Int) (ts : List (List Bk × List Bk)) : Prop :=
  ∃ (oid : Nat) (rows : List Rw), v = lv 3 oid 0 rows.length /\ (rows = [] \/ H[oid]? = some ⟨cellsT rows, true, true⟩) /\ (∀ r ∈ rows, a <= r.lo /\ r.hi <= b /\ (oid < r.lo \/ r.hi <= oid) /\ TradeIn r.lo r.hi H r.u r.w r.o r.i /\ r.p = p /\ r.o.length <= 100 /\ r.i.length <= 100) /\
    rows.Pairwise (fun x y => x.hi <= y.lo) /\ rows.map Rw.t = ts /\ (rows ≠ [] -> Span a b oid) /\ rows.length <= 100
def TrAt (H : Heap) (v : Value) (p : Int) (ts : List (List Bk × List Bk)) : Prop :=
  ∃ (oid : Nat) (rows : List Rw), v = lv 3 oid 0 rows.length /\ At H oid 0 (cellsT rows) /\ (∀ r ∈ rows, TradeAt H r.u r.w r.o r.i /\ r.p = p) /\ rows.map Rw.t = ts /\ rows.length <= 100
theorem TrIn.keep {a b : Nat} {H H' : Heap} {v : Value} {p : Int} {ts : List (List Bk × List Bk)} (h : TrIn a b H v p ts) {S : Nat -> Prop} (hs : Same S H H') (hd : ∀ j, Span a b j -> ¬ S j) : TrIn a b H' v p ts := by
  obtain ⟨oid, rows, h1, h2, h3, h4, h5, h6, h7⟩ := h
  refine ⟨oid, rows, h1, ?_, fun r hr => ?_, h4, h5, h6, h7⟩
  · by_cases hn : rows = []
    · exact .inl hn
    · exact .inr (hs.get (h2.resolve_left hn) (hd _ (h6 hn)))
  · obtain ⟨x1, x2, x3, x4, x5⟩ := h3 r hr
    exact ⟨x1, x2, x3, x4.keep hs (by rintro j ⟨e1, e2⟩; exact hd j ⟨by omega, by omega⟩), x5⟩
theorem TrIn.pre {a b : Nat} {H H' : Heap} (hp : H <+: H') {v : Value} {p : Int} {ts : List (List Bk × List Bk)} (h : TrIn a b H v p ts) : TrIn a b H' v p ts := h.keep (S := fun _ => False) (Same.of_prefix hp) (fun _ _ h => h)
theorem TrIn.read {a b : Nat} {H : Heap} {v : Value} {p : Int} {ts : List (List Bk × List Bk)} (h : TrIn a b H v p ts) : TrAt H v p ts := by
  obtain ⟨oid, rows, h1, h2, h3, h4, h5, h6, h7⟩ := h
  refine ⟨oid, rows, h1, ?_, fun r hr => ⟨(h3 r hr).2.2.2.1.read, (h3 r hr).2.2.2.2.1⟩, h5, h7⟩
  rcases h2 with rfl | h2
  · exact .inl rfl
  · exact Holds.at ⟨true, h2⟩
theorem TrIn.nil (a b : Nat) (H : Heap) (p : Int) : TrIn a b H (lv 3 0 0 0) p [] := ⟨0, [], rfl, .inl rfl, by simp, List.Pairwise.nil, rfl, fun h => absurd rfl h, by simp⟩
theorem TrIn.wider {a b c : Nat} {H : Heap} {v : Value} {p : Int} {ts : List (List Bk × List Bk)} (h : TrIn a b H v p ts) (hc : c <= a) : TrIn c b H v p ts := by
  obtain ⟨oid, rows, h1, h2, h3, h4, h5, h6, h7⟩ := h
  exact ⟨oid, rows, h1, h2, fun r hr => by obtain ⟨x1, x⟩ := h3 r hr; exact ⟨by omega, x⟩, h4, h5, fun hn => ⟨by have := (h6 hn).1; omega, (h6 hn).2⟩, h7⟩
theorem BuildT.inn {H0 H : Heap} {oid : Nat} {rows : List Rw} {p : Int} (h : BuildT H0 H oid rows) (hl : rows.length <= 100) (hr : ∀ r ∈ rows, r.p = p /\ r.o.length <= 100 /\ r.i.length <= 100) : TrIn H0.length H.length H (lv 3 oid 0 rows.length) p (rows.map Rw.t) := by
  refine ⟨oid, rows, rfl, ?_, fun r hm => ?_, h.asc, rfl, fun _ => ⟨h.ge, h.ol.lt⟩, hl⟩
  · rcases h.ol.2 with ⟨e, _⟩ | e
    · exact .inl (List.eq_nil_of_length_eq_zero e)
    · exact .inr e
  · obtain ⟨a, b, c, d⟩ := h.spans r hm
    exact ⟨a, b, c, d, hr r hm⟩

end Go.Proofs.YtkimaohcmcfcnaaGreat
end

section
namespace Go.Proofs.YtkimaohcmcfcnaaGreat
open Go.Ab

theorem atS {H H' : Heap} {S : Nat -> Prop} (hs : Same S H H') {i o : Nat} {cs : List Value} (h : At H i o cs) (hi : cs ≠ [] -> ¬ S i) : At H' i o cs := by
  rcases h with h0 | h
  · exact .inl h0
  · by_cases hc : cs = []
    · exact .inl hc
    · right
      obtain ⟨blk, hb, hbl, hbn, he⟩ := cellsAt_inv h
      rw [cellsAt_of (hs.get hb (hi hc)) hbl hbn, <- he]
theorem row3 {H : Heap} {oid : Nat} {rows : List Rw} (h : At H oid 0 (cellsT rows)) {s : Nat} {r : Rw} (hr : rows[s]? = some r) :
    cellsAt H oid (s * 3) 3 = some r.cells /\ cellsAt H oid (s * 3) 1 = some [.int .i64 r.p] /\ cellsAt H oid (s * 3 + 1) 1 = some [r.u] /\ cellsAt H oid (s * 3 + 2) 1 = some [r.w] := by
  have hlt := (List.getElem?_eq_some_iff.1 hr).1
  have c0 := h.cell (k := s * 3) (v := .int .i64 r.p) (by have := cellsT_get hr (j := 0) (by omega); simpa [Rw.cells] using this)
  have c1 := h.cell (k := s * 3 + 1) (v := r.u) (by have := cellsT_get hr (j := 1) (by omega); simpa [Rw.cells] using this)
  have c2 := h.cell (k := s * 3 + 2) (v := r.w) (by have := cellsT_get hr (j := 2) (by omega); simpa [Rw.cells] using this)
  refine ⟨?_, by simpa using c0, by simpa using c1, by simpa using c2⟩
  have := h.sub (k := s * 3) (n := 3) (by omega) (by rw [cellsT_len]; omega)
  rw [Nat.zero_add] at this
  rw [this, cellsT_drop hr]
  simp [Rw.cells]

end Go.Proofs.YtkimaohcmcfcnaaGreat
end
