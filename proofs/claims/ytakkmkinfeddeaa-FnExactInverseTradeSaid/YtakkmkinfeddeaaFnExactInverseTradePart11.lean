/- Part 11 of what the proof of the law FnExactInverseTrade rests on: contracts of functions of the program, for every argument that each names; no statement of the seat is proved here. -/
import Derived.Test.YtakkmkinfeddeaaFnExactInverseTradePart10

section
/- InverseTrade, FitsSystem. -/
set_option linter.all false
set_option maxRecDepth 20000
set_option maxHeartbeats 8000000
namespace Go.Proofs.Ytakkmkinfeddeaa
open Go.Ab Go.Sort

theorem put3 {H H0 H' : Heap} {id : Nat} {cs0 cs : List Value} (hp0 : H <+: H0) (hid : H.length ≤ id) (hb0 : H0[id]? = some ⟨cs0, true, true⟩) (h2 : cs0.length = 3) (hp : H0 <+: H') (hcl : cs.length = 3) (ho : cs.all Value.oneCell' = true) :
    storeAt H' id 0 cs = some (H'.set id ⟨cs, true, true⟩) ∧ cellsAt (H'.set id ⟨cs, true, true⟩) id 0 3 = some cs ∧ H <+: H'.set id ⟨cs, true, true⟩ ∧ Same (fun j => j = id) H' (H'.set id ⟨cs, true, true⟩) := by
  have hb' := Same.get (S := fun _ => False) (Same.of_prefix hp) hb0 (fun h => h)
  have hsame : Same (fun j => j = id) H' (H'.set id ⟨cs, true, true⟩) := ⟨by simp, fun j hj hS => List.getElem?_set_ne (fun e => hS e.symm)⟩
  refine ⟨?_, ?_, ((Same.of_prefix (hp0.trans hp)).trans hsame).prefix (by intro j hj he; omega), hsame⟩
  · rw [storeAt_of hb' rfl rfl (by simp [hcl, h2]) ho]
    match cs, hcl, cs0, h2 with
    | [x, y, z], _, [a, b, c], _ => simp [over]
  · have := Holds.cells (n := 3) (o := 0) (H := H'.set id ⟨cs, true, true⟩) ⟨true, List.getElem?_set_self (List.getElem?_eq_some_iff.1 hb').1⟩ (by omega)
    rw [this, List.drop_zero, List.take_of_length_le (by omega)]

theorem zeroTr {H : Heap} : Up H (.agg #[.int .i64 0, .slice none 0 0, .slice none 0 0]) (tradeV 0 (lv 3 0 0 0) (lv 3 0 0 0)) := Up.agg ⟨Up.refl _ _, Up.nil _ _ _ _, Up.nil _ _ _ _, trivial⟩

noncomputable def rInv (p : Int) (o i : List Bk) : (Int × List Bk × List Bk) × Int := if tradeB p o i then ((p, i, o), 0) else ((0, [], []), 1)
theorem tradeB_sys {p : Int} {o i : List Bk} (h : tradeB p o i = true) : IsSys p o ∧ IsSys p i := by
  unfold tradeB at h
  rw [Bool.and_eq_true, Bool.and_eq_true] at h
  exact ⟨sysB_of h.1, sysB_of h.2.1⟩
theorem rInv_len (p : Int) (o i : List Bk) : (rInv p o i).1.2.1.length ≤ 1048576 ∧ (rInv p o i).1.2.2.length ≤ 1048576 := by
  unfold rInv
  split
  · rename_i h
    obtain ⟨h1, h2⟩ := tradeB_sys h
    have := h1.2.1; have := h2.2.1
    simp only; omega
  · simp
theorem sys_sort {p : Int} {bs : List Bk} (h : IsSys p bs) : sortB bs = bs := sortB_asc (asc_of _ rfl h.2.2.1)

theorem l04Made_ok {H : Heap} {u w : Value} {p : Int} {o i : List Bk} (hu : BlocksAt H u o) (hw : BlocksAt H w i) (hl : o.length ≤ 1048576) (hl' : i.length ≤ 1048576) (Post : Value → Heap → Prop)
    (h : ∀ H' v x, H <+: H' → TradeIn H.length H'.length H' v x (sortB o) (sortB i) → Post (tradeV p v x) H') : ACalls Try.prog 135 [.int .i64 p, u, w] H Post := by
  refine acalls_vc (rs := [.cell 6 62]) Try.func135 rfl rfl Try.ntmps135 rfl rfl ?_
  simp (maxSteps := 1000000) [go_sem]
  have hp0 : H <+: H ++ [⟨[.int .i64 0, .slice none 0 0, .slice none 0 0], true, true⟩] := List.prefix_append _ _
  have hb0 : (H ++ [(⟨[.int .i64 0, .slice none 0 0, .slice none 0 0], true, true⟩ : Blk)])[H.length]? = some ⟨[.int .i64 0, .slice none 0 0, .slice none 0 0], true, true⟩ := by simp
  have hlen : (H ++ [(⟨[.int .i64 0, .slice none 0 0, .slice none 0 0], true, true⟩ : Blk)]).length = H.length + 1 := by simp
  generalize H ++ [(⟨[.int .i64 0, .slice none 0 0, .slice none 0 0], true, true⟩ : Blk)] = H0 at hp0 hb0 hlen ⊢
  refine l01Sort_ok (hu.pre hp0) hl _ ?_
  intro H1 v1 hp1 hv1
  simp (maxSteps := 1000000) [go_sem]
  refine l01Sort_ok (hw.pre (hp0.trans hp1)) hl' _ ?_
  intro H2 v2 hp2 hv2
  have hv1' := hv1.pre hp2
  have hv2' := hv2
  obtain ⟨id1, ⟨rfl, _⟩, _⟩ := hv1
  obtain ⟨id2, ⟨rfl, _⟩, _⟩ := hv2
  obtain ⟨q1, q2, q3, q4⟩ := put3 (cs := [.int .i64 p, lv 3 id1 0 (sortB o).length, lv 3 id2 0 (sortB i).length]) hp0 (Nat.le_refl _) hb0 rfl (hp1.trans hp2) rfl rfl
  have hle1 := hp1.length_le
  have hle2 := hp2.length_le
  simp (maxSteps := 1000000) [go_sem, q1, q2]
  refine h _ _ _ q3 ?_
  rw [List.length_set]
  exact ⟨H1.length, by omega, by omega, (hv1'.keep q4 (fun j hj e => by have := hj.1; omega)).wider (by omega), hv2'.keep q4 (fun j hj e => by have := hj.1; omega)⟩

theorem specInverse_ok {H : Heap} {u w : Value} {p : Int} {o i : List Bk} (ht : TradeAt H u w o i) (hl : o.length ≤ 1048576 ∧ i.length ≤ 1048576) (Post : Value → Heap → Prop)
    (h : ∀ H' v x, H <+: H' → TradeIn H.length H'.length H' v x (rInv p o i).1.2.1 (rInv p o i).1.2.2 → Post (.tuple #[tradeV (rInv p o i).1.1 v x, .int .i64 (rInv p o i).2]) H') : ACalls Try.prog 59 [tradeV p u w] H Post := by
  obtain ⟨ou, ow⟩ := ht.one
  refine ACalls.res ?_
  refine acalls_vc (rs := [.cell 2 62, .tmp 3]) Try.func59 rfl rfl Try.ntmps59 rfl rfl ?_
  simp (maxSteps := 1000000) [go_sem, tradeV, ou, ow]
  have hp0 : H <+: H ++ [⟨[.int .i64 p, u, w], true, true⟩, ⟨[.int .i64 0, .slice none 0 0, .slice none 0 0], true, true⟩] := List.prefix_append _ _
  have hx0 : Holds (H ++ [(⟨[.int .i64 p, u, w], true, true⟩ : Blk), ⟨[.int .i64 0, .slice none 0 0, .slice none 0 0], true, true⟩]) H.length [.int .i64 p, u, w] := ⟨true, by simp⟩
  have hb0 : (H ++ [(⟨[.int .i64 p, u, w], true, true⟩ : Blk), ⟨[.int .i64 0, .slice none 0 0, .slice none 0 0], true, true⟩])[H.length + 1]? = some ⟨[.int .i64 0, .slice none 0 0, .slice none 0 0], true, true⟩ := by simp
  have hlen : (H ++ [(⟨[.int .i64 p, u, w], true, true⟩ : Blk), ⟨[.int .i64 0, .slice none 0 0, .slice none 0 0], true, true⟩]).length = H.length + 2 := by simp
  generalize H ++ [(⟨[.int .i64 p, u, w], true, true⟩ : Blk), ⟨[.int .i64 0, .slice none 0 0, .slice none 0 0], true, true⟩] = H0 at hp0 hx0 hb0 hlen ⊢
  refine l04Is_ok (ht.1.pre hp0) (ht.2.pre hp0) hl.1 hl.2 _ ?_
  intro H1 hp1
  obtain ⟨d0, d1, d2, d3⟩ := (hx0.pre hp1).tr
  cases hs : tradeB p o i with
  | false =>
    have hr : rInv p o i = ((0, [], []), 1) := by simp [rInv, hs]
    obtain ⟨q1, q2, q3, q4⟩ := put3 (cs := [.int .i64 0, .slice none 0 0, .slice none 0 0]) hp0 (show H.length ≤ H.length + 1 by omega) hb0 rfl hp1 rfl rfl
    have fin := h _ (lv 3 0 0 0) (lv 3 0 0 0) q3 (by rw [hr]; exact TradeIn.nil (by rw [List.length_set]; have := hp1.length_le; omega) _)
    rw [hr] at fin
    simp (maxSteps := 1000000) [go_sem, q1, q2]
    exact ⟨_, Up.tuple (ys := #[tradeV 0 (lv 3 0 0 0) (lv 3 0 0 0), .int .i64 1]) ⟨zeroTr, Up.refl _ _, trivial⟩, fin⟩
  | true =>
    obtain ⟨hS1, hS2⟩ := tradeB_sys hs
    have hr : rInv p o i = ((p, i, o), 0) := by simp [rInv, hs]
    simp (maxSteps := 1000000) [go_sem, d1, d2, d3]
    refine l04Made_ok (ht.2.pre (hp0.trans hp1)) (ht.1.pre (hp0.trans hp1)) hl.2 hl.1 _ ?_
    intro H2 v x hp2 hv
    rw [sys_sort hS1, sys_sort hS2] at hv
    obtain ⟨a1, a2⟩ := hv.read.one
    obtain ⟨q1, q2, q3, q4⟩ := put3 (cs := [.int .i64 p, v, x]) hp0 (show H.length ≤ H.length + 1 by omega) hb0 rfl (hp1.trans hp2) rfl (by simp [a1, a2, one_int])
    have hle1 := hp1.length_le
    have fin := h _ v x q3 (by rw [hr, List.length_set]; exact (hv.keep q4 (fun j hj e => by have := hj.1; omega)).wider (by omega))
    rw [hr] at fin
    simp (maxSteps := 1000000) [go_sem, tradeV, q1, q2]
    exact ⟨_, Up.refl _ _, fin⟩

theorem implInverse_ok {H : Heap} {u w : Value} {p : Int} {o i : List Bk} (ht : TradeAt H u w o i) (hl : o.length ≤ 1048576 ∧ i.length ≤ 1048576) (Post : Value → Heap → Prop)
    (h : ∀ H' v x, H <+: H' → TradeIn H.length H'.length H' v x (rInv p o i).1.2.1 (rInv p o i).1.2.2 → Post (.tuple #[tradeV (rInv p o i).1.1 v x, .int .i64 (rInv p o i).2]) H') : ACalls Try.prog 60 [tradeV p u w] H Post := by
  obtain ⟨ou, ow⟩ := ht.one
  refine ACalls.res ?_
  refine acalls_vc (rs := [.cell 2 62, .tmp 3]) Try.func60 rfl rfl Try.ntmps60 rfl rfl ?_
  simp (maxSteps := 1000000) [go_sem, tradeV, ou, ow]
  have hp0 : H <+: H ++ [⟨[.int .i64 p, u, w], true, true⟩, ⟨[.int .i64 0, .slice none 0 0, .slice none 0 0], true, true⟩] := List.prefix_append _ _
  have hx0 : Holds (H ++ [(⟨[.int .i64 p, u, w], true, true⟩ : Blk), ⟨[.int .i64 0, .slice none 0 0, .slice none 0 0], true, true⟩]) H.length [.int .i64 p, u, w] := ⟨true, by simp⟩
  have hb0 : (H ++ [(⟨[.int .i64 p, u, w], true, true⟩ : Blk), ⟨[.int .i64 0, .slice none 0 0, .slice none 0 0], true, true⟩])[H.length + 1]? = some ⟨[.int .i64 0, .slice none 0 0, .slice none 0 0], true, true⟩ := by simp
  have hlen : (H ++ [(⟨[.int .i64 p, u, w], true, true⟩ : Blk), ⟨[.int .i64 0, .slice none 0 0, .slice none 0 0], true, true⟩]).length = H.length + 2 := by simp
  generalize H ++ [(⟨[.int .i64 p, u, w], true, true⟩ : Blk), ⟨[.int .i64 0, .slice none 0 0, .slice none 0 0], true, true⟩] = H0 at hp0 hx0 hb0 hlen ⊢
  have tv : Value.agg #[.int .i64 p, u, w] = tradeV p u w := rfl
  refine implIsTrade (ht.1.pre hp0) (ht.2.pre hp0) _ ?_
  intro H1 hp1
  obtain ⟨d0, d1, d2, d3⟩ := (hx0.pre hp1).tr
  cases hs : tradeB p o i with
  | false =>
    have hr : rInv p o i = ((0, [], []), 1) := by simp [rInv, hs]
    obtain ⟨q1, q2, q3, q4⟩ := put3 (cs := [.int .i64 0, .slice none 0 0, .slice none 0 0]) hp0 (show H.length ≤ H.length + 1 by omega) hb0 rfl hp1 rfl rfl
    have fin := h _ (lv 3 0 0 0) (lv 3 0 0 0) q3 (by rw [hr]; exact TradeIn.nil (by rw [List.length_set]; have := hp1.length_le; omega) _)
    rw [hr] at fin
    simp (maxSteps := 1000000) [go_sem, q1, q2]
    exact ⟨_, Up.tuple (ys := #[tradeV 0 (lv 3 0 0 0) (lv 3 0 0 0), .int .i64 1]) ⟨zeroTr, Up.refl _ _, trivial⟩, fin⟩
  | true =>
    have hr : rInv p o i = ((p, i, o), 0) := by simp [rInv, hs]
    simp (maxSteps := 1000000) [go_sem]
    refine AWp.draw mixed [(0, false), (1, false), (2, false), (3, false), (5, false), (6, false), (4, true), (7, true), (8, false), (9, false), (10, false)] (by kernel_rfl) ?_
    simp (maxSteps := 1000000) [go_sem, d1, d2, d3]
    refine cloneB_ok (ht.2.pre (hp0.trans hp1)) hl.2 _ ?_
    intro H2 v hp2 hv
    obtain ⟨d0, d1, d2, d3⟩ := (hx0.pre (hp1.trans hp2)).tr
    simp (maxSteps := 1000000) [go_sem, hp2, d1, d2, d3]
    refine cloneB_ok (ht.1.pre (hp0.trans (hp1.trans hp2))) hl.1 _ ?_
    intro H3 x hp3 hx
    have hv' := hv.pre hp3
    have hx' := hx
    obtain ⟨id1, ⟨rfl, _⟩, _⟩ := hv
    obtain ⟨id2, ⟨rfl, _⟩, _⟩ := hx
    obtain ⟨q1, q2, q3, q4⟩ := put3 (cs := [.int .i64 p, lv 3 id1 0 i.length, lv 3 id2 0 o.length]) hp0 (show H.length ≤ H.length + 1 by omega) hb0 rfl (hp1.trans (hp2.trans hp3)) rfl rfl
    have hle1 := hp1.length_le
    have hle2 := hp2.length_le
    have hle3 := hp3.length_le
    have hin : TradeIn H.length H3.length (H3.set (H.length + 1) ⟨[.int .i64 p, lv 3 id1 0 i.length, lv 3 id2 0 o.length], true, true⟩) (lv 3 id1 0 i.length) (lv 3 id2 0 o.length) i o :=
      ⟨H2.length, by omega, by omega, (hv'.keep q4 (fun j hj e => by have := hj.1; omega)).wider (by omega), hx'.keep q4 (fun j hj e => by have := hj.1; omega)⟩
    have fin := h _ _ _ q3 (by rw [hr, List.length_set]; exact hin)
    rw [hr] at fin
    simp (maxSteps := 1000000) [go_sem, hp3, q1, q2]
    exact ⟨_, Up.refl _ _, fin⟩

end Go.Proofs.Ytakkmkinfeddeaa
end

section
/- The law on InverseTrade, in abstract terms: its code returns true, for every input. -/
set_option linter.all false
set_option maxRecDepth 20000
namespace Go.Proofs.Ytakkmkinfeddeaa
open Go.Ab

theorem lawFnExactInverseTrade (H : Heap) (avs : List Value) (h : argsSay [shTrade] H avs) : ACalls Try.prog 12 avs H fun v _ => v = .bool true := by
  obtain ⟨_, _, rfl, a0, rfl⟩ := h
  obtain ⟨p0, u0, y0, o0, i0, rfl, hp00, hz0⟩ := says_shTrade a0
  have one0 : u0.oneCell' = true := by obtain ⟨⟨i, o, rfl, _⟩, _⟩ := hz0; rfl
  have two0 : y0.oneCell' = true := by obtain ⟨_, ⟨i, o, rfl, _⟩⟩ := hz0; rfl
  refine acalls_vc (rs := [.tmp 2]) Try.func12 rfl rfl Try.ntmps12 rfl rfl ?_
  try simp (maxSteps := 1000000) [go_sem, one0, sysV, tradeV, two0]
  have hp1 : H <+: H ++ [(⟨[.int .i64 p0, u0, y0], true, true⟩ : Blk)] := List.prefix_append _ _
  have bx0 : Holds (H ++ [(⟨[.int .i64 p0, u0, y0], true, true⟩ : Blk)]) (H.length) [.int .i64 p0, u0, y0] := ⟨true, by simp⟩
  have hbH1 : (H ++ [(⟨[.int .i64 p0, u0, y0], true, true⟩ : Blk)]).length = H.length + 1 := by simp
  generalize H ++ [(⟨[.int .i64 p0, u0, y0], true, true⟩ : Blk)] = H1 at hp1 hbH1 bx0 ⊢
  have hlH1 := hp1.length_le
  have qz0 := hp1
  obtain ⟨d0a, d0b, d0c, d0d⟩ := bx0.tr
  refine szTrade0_ok (hz0.pre qz0) (by omega) (by omega) _ ?_
  intro H2 hp2
  replace bx0 := bx0.pre hp2
  replace qz0 := qz0.trans hp2
  have hlH2 := hp2.length_le
  obtain ⟨d0a, d0b, d0c, d0d⟩ := bx0.tr
  by_cases hbig0 : (1048576 : Int) < o0.length
  · simp (maxSteps := 1000000) [go_sem, hbig0, one0, sysV, tradeV, two0]
  by_cases hbih0 : (1048576 : Int) - o0.length < i0.length
  · simp (maxSteps := 1000000) [go_sem, hbig0, hbih0, one0, sysV, tradeV, two0]
  have hneg0 : decide ((1048576 : Int) - o0.length - i0.length < 0) = false := by simp; omega
  have hl0 : o0.length ≤ 1048576 ∧ i0.length ≤ 1048576 := by omega
  have hq0 := hz0.at hl0
  try simp (maxSteps := 1000000) [go_sem, hbig0, hbih0, hneg0, one0, sysV, tradeV, two0, d0a, d0b, d0c, d0d]
  refine toTr_ok (hq0.pre qz0) hl0 _ ?_
  intro H3 wo3 yo3 hp3 hoo3
  replace bx0 := bx0.pre hp3
  replace qz0 := qz0.trans hp3
  have hlH3 := hp3.length_le
  obtain ⟨d0a, d0b, d0c, d0d⟩ := bx0.tr
  try simp (maxSteps := 1000000) [go_sem, hbig0, hbih0, hneg0, one0, sysV, tradeV, two0, d0a, d0b, d0c, d0d]
  refine specInverse_ok hoo3.read hl0 _ ?_
  intro H4 wH4_0 yH4_0 hp4 hoH4_0
  replace bx0 := bx0.pre hp4
  replace hoo3 := hoo3.pre hp4
  replace qz0 := qz0.trans hp4
  have hlH4 := hp4.length_le
  obtain ⟨d0a, d0b, d0c, d0d⟩ := bx0.tr
  have one_rH4_0 : wH4_0.oneCell' = true := hoH4_0.read.one.1
  have two_rH4_0 : yH4_0.oneCell' = true := hoH4_0.read.one.2
  try simp (maxSteps := 1000000) [go_sem, hbig0, hbih0, hneg0, one0, one_rH4_0, sysV, tradeV, two0, two_rH4_0, d0a, d0b, d0c, d0d]
  have bxrH4_0 := Holds.last H4 [.int .i64 (rInv p0 o0 i0).1.1, wH4_0, yH4_0]
  have hp5 : H4 <+: H4 ++ [(⟨[.int .i64 (rInv p0 o0 i0).1.1, wH4_0, yH4_0], true, true⟩ : Blk)] := List.prefix_append _ _
  have hbH5 : (H4 ++ [(⟨[.int .i64 (rInv p0 o0 i0).1.1, wH4_0, yH4_0], true, true⟩ : Blk)]).length = H4.length + 1 := by simp
  generalize H4 ++ [(⟨[.int .i64 (rInv p0 o0 i0).1.1, wH4_0, yH4_0], true, true⟩ : Blk)] = H5 at bxrH4_0 hp5 hbH5 ⊢
  replace bx0 := bx0.pre hp5
  replace hoo3 := hoo3.pre hp5
  replace hoH4_0 := hoH4_0.pre hp5
  replace qz0 := qz0.trans hp5
  have hlH5 := hp5.length_le
  obtain ⟨d0a, d0b, d0c, d0d⟩ := bx0.tr
  obtain ⟨erH4_0a, erH4_0b, erH4_0c, erH4_0d⟩ := bxrH4_0.tr
  try simp (maxSteps := 1000000) [go_sem, hbig0, hbih0, hneg0, one0, one_rH4_0, sysV, tradeV, two0, two_rH4_0, d0a, d0b, d0c, d0d, erH4_0a, erH4_0b, erH4_0c, erH4_0d]
  refine toTr_ok (hq0.pre qz0) hl0 _ ?_
  intro H6 wo6 yo6 hp6 hoo6
  replace bx0 := bx0.pre hp6
  replace bxrH4_0 := bxrH4_0.pre hp6
  replace hoo3 := hoo3.pre hp6
  replace hoH4_0 := hoH4_0.pre hp6
  replace qz0 := qz0.trans hp6
  have hlH6 := hp6.length_le
  obtain ⟨d0a, d0b, d0c, d0d⟩ := bx0.tr
  obtain ⟨erH4_0a, erH4_0b, erH4_0c, erH4_0d⟩ := bxrH4_0.tr
  have one_o6 : wo6.oneCell' = true := hoo6.read.one.1
  have two_o6 : yo6.oneCell' = true := hoo6.read.one.2
  try simp (maxSteps := 1000000) [go_sem, hbig0, hbih0, hneg0, one0, one_o6, one_rH4_0, sysV, tradeV, two0, two_o6, two_rH4_0, d0a, d0b, d0c, d0d, erH4_0a, erH4_0b, erH4_0c, erH4_0d]
  have bxo6 := Holds.last H6 [.int .i64 p0, wo6, yo6]
  have hp7 : H6 <+: H6 ++ [(⟨[.int .i64 p0, wo6, yo6], true, true⟩ : Blk)] := List.prefix_append _ _
  have hbH7 : (H6 ++ [(⟨[.int .i64 p0, wo6, yo6], true, true⟩ : Blk)]).length = H6.length + 1 := by simp
  generalize H6 ++ [(⟨[.int .i64 p0, wo6, yo6], true, true⟩ : Blk)] = H7 at bxo6 hp7 hbH7 ⊢
  replace bx0 := bx0.pre hp7
  replace bxrH4_0 := bxrH4_0.pre hp7
  replace hoo3 := hoo3.pre hp7
  replace hoH4_0 := hoH4_0.pre hp7
  replace hoo6 := hoo6.pre hp7
  replace qz0 := qz0.trans hp7
  have hlH7 := hp7.length_le
  obtain ⟨d0a, d0b, d0c, d0d⟩ := bx0.tr
  obtain ⟨erH4_0a, erH4_0b, erH4_0c, erH4_0d⟩ := bxrH4_0.tr
  obtain ⟨eo6a, eo6b, eo6c, eo6d⟩ := bxo6.tr
  try simp (maxSteps := 1000000) [go_sem, hbig0, hbih0, hneg0, one0, one_o6, one_rH4_0, sysV, tradeV, two0, two_o6, two_rH4_0, d0a, d0b, d0c, d0d, erH4_0a, erH4_0b, erH4_0c, erH4_0d, eo6a, eo6b, eo6c, eo6d]
  refine implInverse_ok hoo6.read hl0 _ ?_
  intro H8 wH8_0 yH8_0 hp8 hoH8_0
  replace bx0 := bx0.pre hp8
  replace bxrH4_0 := bxrH4_0.pre hp8
  replace bxo6 := bxo6.pre hp8
  replace hoo3 := hoo3.pre hp8
  replace hoH4_0 := hoH4_0.pre hp8
  replace hoo6 := hoo6.pre hp8
  replace qz0 := qz0.trans hp8
  have hlH8 := hp8.length_le
  obtain ⟨d0a, d0b, d0c, d0d⟩ := bx0.tr
  obtain ⟨erH4_0a, erH4_0b, erH4_0c, erH4_0d⟩ := bxrH4_0.tr
  obtain ⟨eo6a, eo6b, eo6c, eo6d⟩ := bxo6.tr
  have one_rH8_0 : wH8_0.oneCell' = true := hoH8_0.read.one.1
  have two_rH8_0 : yH8_0.oneCell' = true := hoH8_0.read.one.2
  try simp (maxSteps := 1000000) [go_sem, hbig0, hbih0, hneg0, one0, one_o6, one_rH4_0, one_rH8_0, sysV, tradeV, two0, two_o6, two_rH4_0, two_rH8_0, d0a, d0b, d0c, d0d, erH4_0a, erH4_0b, erH4_0c, erH4_0d, eo6a, eo6b, eo6c, eo6d]
  have bxrH8_0 := Holds.last H8 [.int .i64 (rInv p0 o0 i0).1.1, wH8_0, yH8_0]
  have hp9 : H8 <+: H8 ++ [(⟨[.int .i64 (rInv p0 o0 i0).1.1, wH8_0, yH8_0], true, true⟩ : Blk)] := List.prefix_append _ _
  have hbH9 : (H8 ++ [(⟨[.int .i64 (rInv p0 o0 i0).1.1, wH8_0, yH8_0], true, true⟩ : Blk)]).length = H8.length + 1 := by simp
  generalize H8 ++ [(⟨[.int .i64 (rInv p0 o0 i0).1.1, wH8_0, yH8_0], true, true⟩ : Blk)] = H9 at bxrH8_0 hp9 hbH9 ⊢
  replace bx0 := bx0.pre hp9
  replace bxrH4_0 := bxrH4_0.pre hp9
  replace bxo6 := bxo6.pre hp9
  replace hoo3 := hoo3.pre hp9
  replace hoH4_0 := hoH4_0.pre hp9
  replace hoo6 := hoo6.pre hp9
  replace hoH8_0 := hoH8_0.pre hp9
  replace qz0 := qz0.trans hp9
  have hlH9 := hp9.length_le
  obtain ⟨d0a, d0b, d0c, d0d⟩ := bx0.tr
  obtain ⟨erH4_0a, erH4_0b, erH4_0c, erH4_0d⟩ := bxrH4_0.tr
  obtain ⟨eo6a, eo6b, eo6c, eo6d⟩ := bxo6.tr
  obtain ⟨erH8_0a, erH8_0b, erH8_0c, erH8_0d⟩ := bxrH8_0.tr
  try simp (maxSteps := 1000000) [go_sem, hbig0, hbih0, hneg0, one0, one_o6, one_rH4_0, one_rH8_0, sysV, tradeV, two0, two_o6, two_rH4_0, two_rH8_0, d0a, d0b, d0c, d0d, erH4_0a, erH4_0b, erH4_0c, erH4_0d, eo6a, eo6b, eo6c, eo6d, erH8_0a, erH8_0b, erH8_0c, erH8_0d]
  refine eqTrade_ok hoH8_0.read hoH4_0.read _ ?_
  intro H10 hp10
  replace bx0 := bx0.pre hp10
  replace bxrH4_0 := bxrH4_0.pre hp10
  replace bxo6 := bxo6.pre hp10
  replace bxrH8_0 := bxrH8_0.pre hp10
  replace hoo3 := hoo3.pre hp10
  replace hoH4_0 := hoH4_0.pre hp10
  replace hoo6 := hoo6.pre hp10
  replace hoH8_0 := hoH8_0.pre hp10
  replace qz0 := qz0.trans hp10
  have hlH10 := hp10.length_le
  obtain ⟨d0a, d0b, d0c, d0d⟩ := bx0.tr
  obtain ⟨erH4_0a, erH4_0b, erH4_0c, erH4_0d⟩ := bxrH4_0.tr
  obtain ⟨eo6a, eo6b, eo6c, eo6d⟩ := bxo6.tr
  obtain ⟨erH8_0a, erH8_0b, erH8_0c, erH8_0d⟩ := bxrH8_0.tr
  try simp (maxSteps := 1000000) [go_sem, hbig0, hbih0, hneg0, one0, one_o6, one_rH4_0, one_rH8_0, sysV, tradeV, two0, two_o6, two_rH4_0, two_rH8_0, d0a, d0b, d0c, d0d, erH4_0a, erH4_0b, erH4_0c, erH4_0d, eo6a, eo6b, eo6c, eo6d, erH8_0a, erH8_0b, erH8_0c, erH8_0d]
  refine AWp.draw mixed [(0, false), (1, false), (2, true), (3, false), (4, false)] (by kernel_rfl) ?_
  try simp (maxSteps := 1000000) [go_sem, hbig0, hbih0, hneg0, one0, one_o6, one_rH4_0, one_rH8_0, sysV, tradeV, two0, two_o6, two_rH4_0, two_rH8_0, d0a, d0b, d0c, d0d, erH4_0a, erH4_0b, erH4_0c, erH4_0d, eo6a, eo6b, eo6c, eo6d, erH8_0a, erH8_0b, erH8_0c, erH8_0d]
  refine toTr_ok (hq0.pre qz0) hl0 _ ?_
  intro H11 wo11 yo11 hp11 hoo11
  replace bx0 := bx0.pre hp11
  replace bxrH4_0 := bxrH4_0.pre hp11
  replace bxo6 := bxo6.pre hp11
  replace bxrH8_0 := bxrH8_0.pre hp11
  replace hoo3 := hoo3.pre hp11
  replace hoH4_0 := hoH4_0.pre hp11
  replace hoo6 := hoo6.pre hp11
  replace hoH8_0 := hoH8_0.pre hp11
  replace qz0 := qz0.trans hp11
  have hlH11 := hp11.length_le
  obtain ⟨d0a, d0b, d0c, d0d⟩ := bx0.tr
  obtain ⟨erH4_0a, erH4_0b, erH4_0c, erH4_0d⟩ := bxrH4_0.tr
  obtain ⟨eo6a, eo6b, eo6c, eo6d⟩ := bxo6.tr
  obtain ⟨erH8_0a, erH8_0b, erH8_0c, erH8_0d⟩ := bxrH8_0.tr
  try simp (maxSteps := 1000000) [go_sem, hbig0, hbih0, hneg0, hp11, one0, one_o6, one_rH4_0, one_rH8_0, sysV, tradeV, two0, two_o6, two_rH4_0, two_rH8_0, d0a, d0b, d0c, d0d, erH4_0a, erH4_0b, erH4_0c, erH4_0d, eo6a, eo6b, eo6c, eo6d, erH8_0a, erH8_0b, erH8_0c, erH8_0d]
  refine eqTrade_ok hoo6.read hoo11.read _ ?_
  intro H12 hp12
  replace bx0 := bx0.pre hp12
  replace bxrH4_0 := bxrH4_0.pre hp12
  replace bxo6 := bxo6.pre hp12
  replace bxrH8_0 := bxrH8_0.pre hp12
  replace hoo3 := hoo3.pre hp12
  replace hoH4_0 := hoH4_0.pre hp12
  replace hoo6 := hoo6.pre hp12
  replace hoH8_0 := hoH8_0.pre hp12
  replace hoo11 := hoo11.pre hp12
  replace qz0 := qz0.trans hp12
  have hlH12 := hp12.length_le
  obtain ⟨d0a, d0b, d0c, d0d⟩ := bx0.tr
  obtain ⟨erH4_0a, erH4_0b, erH4_0c, erH4_0d⟩ := bxrH4_0.tr
  obtain ⟨eo6a, eo6b, eo6c, eo6d⟩ := bxo6.tr
  obtain ⟨erH8_0a, erH8_0b, erH8_0c, erH8_0d⟩ := bxrH8_0.tr
  try simp (maxSteps := 1000000) [go_sem, hbig0, hbih0, hneg0, hp11, one0, one_o6, one_rH4_0, one_rH8_0, sysV, tradeV, two0, two_o6, two_rH4_0, two_rH8_0, d0a, d0b, d0c, d0d, erH4_0a, erH4_0b, erH4_0c, erH4_0d, eo6a, eo6b, eo6c, eo6d, erH8_0a, erH8_0b, erH8_0c, erH8_0d]
  have hmlo6 : (o0).length ≤ 1048576 ∧ (i0).length ≤ 1048576 := by omega
  refine markTr_ok hoo6 (by omega) hmlo6 (by omega) (by omega) _ ?_
  intro H13 hs13 mk13
  replace bx0 := bx0.keepS hs13 (by rintro ⟨h1, h2⟩; omega)
  replace bxrH4_0 := bxrH4_0.keepS hs13 (by rintro ⟨h1, h2⟩; omega)
  replace bxo6 := bxo6.keepS hs13 (by rintro ⟨h1, h2⟩; omega)
  replace bxrH8_0 := bxrH8_0.keepS hs13 (by rintro ⟨h1, h2⟩; omega)
  replace hoo3 := hoo3.keep hs13 (by rintro j ⟨h1, h2⟩ ⟨h3, h4⟩; omega)
  replace hoH4_0 := hoH4_0.keep hs13 (by rintro j ⟨h1, h2⟩ ⟨h3, h4⟩; omega)
  replace hoH8_0 := hoH8_0.keep hs13 (by rintro j ⟨h1, h2⟩ ⟨h3, h4⟩; omega)
  replace hoo11 := hoo11.keep hs13 (by rintro j ⟨h1, h2⟩ ⟨h3, h4⟩; omega)
  replace qz0 := ((Same.of_prefix qz0).trans hs13).prefix (by rintro j hj ⟨h1, h2⟩; omega)
  have hlH13 := hs13.1
  obtain ⟨d0a, d0b, d0c, d0d⟩ := bx0.tr
  obtain ⟨erH4_0a, erH4_0b, erH4_0c, erH4_0d⟩ := bxrH4_0.tr
  obtain ⟨eo6a, eo6b, eo6c, eo6d⟩ := bxo6.tr
  obtain ⟨erH8_0a, erH8_0b, erH8_0c, erH8_0d⟩ := bxrH8_0.tr
  have hng13 : decide ((1 : Int) + ((((o0).length + (i0).length) * 3 : Nat) : Int) < 0) = false := by simp only [decide_eq_false_iff_not]; omega
  try simp only [Int.natCast_mul, Int.natCast_add, Int.cast_ofNat_Int] at hng13
  try simp (maxSteps := 1000000) [go_sem, hbig0, hbih0, hneg0, hng13, hp11, one0, one_o6, one_rH4_0, one_rH8_0, sysV, tradeV, two0, two_o6, two_rH4_0, two_rH8_0, d0a, d0b, d0c, d0d, erH4_0a, erH4_0b, erH4_0c, erH4_0d, eo6a, eo6b, eo6c, eo6d, erH8_0a, erH8_0b, erH8_0c, erH8_0d]
  refine eqTrade_ok hoH8_0.read hoH4_0.read _ ?_
  intro H14 hp14
  replace bx0 := bx0.pre hp14
  replace bxrH4_0 := bxrH4_0.pre hp14
  replace bxo6 := bxo6.pre hp14
  replace bxrH8_0 := bxrH8_0.pre hp14
  replace hoo3 := hoo3.pre hp14
  replace hoH4_0 := hoH4_0.pre hp14
  replace mk13 := mk13.pre hp14
  replace hoH8_0 := hoH8_0.pre hp14
  replace hoo11 := hoo11.pre hp14
  replace qz0 := qz0.trans hp14
  have hlH14 := hp14.length_le
  obtain ⟨d0a, d0b, d0c, d0d⟩ := bx0.tr
  obtain ⟨erH4_0a, erH4_0b, erH4_0c, erH4_0d⟩ := bxrH4_0.tr
  obtain ⟨eo6a, eo6b, eo6c, eo6d⟩ := bxo6.tr
  obtain ⟨erH8_0a, erH8_0b, erH8_0c, erH8_0d⟩ := bxrH8_0.tr
  try simp (maxSteps := 1000000) [go_sem, hbig0, hbih0, hneg0, hng13, hp11, one0, one_o6, one_rH4_0, one_rH8_0, sysV, tradeV, two0, two_o6, two_rH4_0, two_rH8_0, d0a, d0b, d0c, d0d, erH4_0a, erH4_0b, erH4_0c, erH4_0d, eo6a, eo6b, eo6c, eo6d, erH8_0a, erH8_0b, erH8_0c, erH8_0d]
  have hmlrH8_0 : ((rInv p0 o0 i0).1.2.1).length ≤ 1048576 ∧ ((rInv p0 o0 i0).1.2.2).length ≤ 1048576 := by exact rInv_len _ _ _
  refine markTr_ok hoH8_0 (by omega) hmlrH8_0 (by omega) (by omega) _ ?_
  intro H15 hs15 mk15
  replace bx0 := bx0.keepS hs15 (by rintro ⟨h1, h2⟩; omega)
  replace bxrH4_0 := bxrH4_0.keepS hs15 (by rintro ⟨h1, h2⟩; omega)
  replace bxo6 := bxo6.keepS hs15 (by rintro ⟨h1, h2⟩; omega)
  replace bxrH8_0 := bxrH8_0.keepS hs15 (by rintro ⟨h1, h2⟩; omega)
  replace hoo3 := hoo3.keep hs15 (by rintro j ⟨h1, h2⟩ ⟨h3, h4⟩; omega)
  replace hoH4_0 := hoH4_0.keep hs15 (by rintro j ⟨h1, h2⟩ ⟨h3, h4⟩; omega)
  replace mk13 := mk13.keep hs15 (by rintro j ⟨h1, h2⟩ ⟨h3, h4⟩; omega)
  replace hoo11 := hoo11.keep hs15 (by rintro j ⟨h1, h2⟩ ⟨h3, h4⟩; omega)
  replace qz0 := ((Same.of_prefix qz0).trans hs15).prefix (by rintro j hj ⟨h1, h2⟩; omega)
  have hlH15 := hs15.1
  obtain ⟨d0a, d0b, d0c, d0d⟩ := bx0.tr
  obtain ⟨erH4_0a, erH4_0b, erH4_0c, erH4_0d⟩ := bxrH4_0.tr
  obtain ⟨eo6a, eo6b, eo6c, eo6d⟩ := bxo6.tr
  obtain ⟨erH8_0a, erH8_0b, erH8_0c, erH8_0d⟩ := bxrH8_0.tr
  have hng15 : decide ((1 : Int) + (((((rInv p0 o0 i0).1.2.1).length + ((rInv p0 o0 i0).1.2.2).length) * 3 : Nat) : Int) < 0) = false := by simp only [decide_eq_false_iff_not]; omega
  try simp only [Int.natCast_mul, Int.natCast_add, Int.cast_ofNat_Int] at hng15
  try simp (maxSteps := 1000000) [go_sem, hbig0, hbih0, hneg0, hng13, hng15, hp11, one0, one_o6, one_rH4_0, one_rH8_0, sysV, tradeV, two0, two_o6, two_rH4_0, two_rH8_0, d0a, d0b, d0c, d0d, erH4_0a, erH4_0b, erH4_0c, erH4_0d, eo6a, eo6b, eo6c, eo6d, erH8_0a, erH8_0b, erH8_0c, erH8_0d]
  refine heldTr_ok mk15 hmlrH8_0 (by omega) (by omega) _ ?_
  intro H16 hp16
  replace bx0 := bx0.pre hp16
  replace bxrH4_0 := bxrH4_0.pre hp16
  replace bxo6 := bxo6.pre hp16
  replace bxrH8_0 := bxrH8_0.pre hp16
  replace hoo3 := hoo3.pre hp16
  replace hoH4_0 := hoH4_0.pre hp16
  replace mk13 := mk13.pre hp16
  replace mk15 := mk15.pre hp16
  replace hoo11 := hoo11.pre hp16
  replace qz0 := qz0.trans hp16
  have hlH16 := hp16.length_le
  obtain ⟨d0a, d0b, d0c, d0d⟩ := bx0.tr
  obtain ⟨erH4_0a, erH4_0b, erH4_0c, erH4_0d⟩ := bxrH4_0.tr
  obtain ⟨eo6a, eo6b, eo6c, eo6d⟩ := bxo6.tr
  obtain ⟨erH8_0a, erH8_0b, erH8_0c, erH8_0d⟩ := bxrH8_0.tr
  try simp (maxSteps := 1000000) [go_sem, hbig0, hbih0, hneg0, hng13, hng15, hp11, one0, one_o6, one_rH4_0, one_rH8_0, sysV, tradeV, two0, two_o6, two_rH4_0, two_rH8_0, d0a, d0b, d0c, d0d, erH4_0a, erH4_0b, erH4_0c, erH4_0d, eo6a, eo6b, eo6c, eo6d, erH8_0a, erH8_0b, erH8_0c, erH8_0d]
  refine toTr_ok (hq0.pre qz0) hl0 _ ?_
  intro H17 wo17 yo17 hp17 hoo17
  replace bx0 := bx0.pre hp17
  replace bxrH4_0 := bxrH4_0.pre hp17
  replace bxo6 := bxo6.pre hp17
  replace bxrH8_0 := bxrH8_0.pre hp17
  replace hoo3 := hoo3.pre hp17
  replace hoH4_0 := hoH4_0.pre hp17
  replace mk13 := mk13.pre hp17
  replace mk15 := mk15.pre hp17
  replace hoo11 := hoo11.pre hp17
  replace qz0 := qz0.trans hp17
  have hlH17 := hp17.length_le
  obtain ⟨d0a, d0b, d0c, d0d⟩ := bx0.tr
  obtain ⟨erH4_0a, erH4_0b, erH4_0c, erH4_0d⟩ := bxrH4_0.tr
  obtain ⟨eo6a, eo6b, eo6c, eo6d⟩ := bxo6.tr
  obtain ⟨erH8_0a, erH8_0b, erH8_0c, erH8_0d⟩ := bxrH8_0.tr
  try simp (maxSteps := 1000000) [go_sem, hbig0, hbih0, hneg0, hng13, hng15, hp11, one0, one_o6, one_rH4_0, one_rH8_0, sysV, tradeV, two0, two_o6, two_rH4_0, two_rH8_0, d0a, d0b, d0c, d0d, erH4_0a, erH4_0b, erH4_0c, erH4_0d, eo6a, eo6b, eo6c, eo6d, erH8_0a, erH8_0b, erH8_0c, erH8_0d]
  refine implInverse_ok hoo17.read hl0 _ ?_
  intro H18 wH18_0 yH18_0 hp18 hoH18_0
  replace bx0 := bx0.pre hp18
  replace bxrH4_0 := bxrH4_0.pre hp18
  replace bxo6 := bxo6.pre hp18
  replace bxrH8_0 := bxrH8_0.pre hp18
  replace hoo3 := hoo3.pre hp18
  replace hoH4_0 := hoH4_0.pre hp18
  replace mk13 := mk13.pre hp18
  replace mk15 := mk15.pre hp18
  replace hoo11 := hoo11.pre hp18
  replace hoo17 := hoo17.pre hp18
  replace qz0 := qz0.trans hp18
  have hlH18 := hp18.length_le
  obtain ⟨d0a, d0b, d0c, d0d⟩ := bx0.tr
  obtain ⟨erH4_0a, erH4_0b, erH4_0c, erH4_0d⟩ := bxrH4_0.tr
  obtain ⟨eo6a, eo6b, eo6c, eo6d⟩ := bxo6.tr
  obtain ⟨erH8_0a, erH8_0b, erH8_0c, erH8_0d⟩ := bxrH8_0.tr
  have one_rH18_0 : wH18_0.oneCell' = true := hoH18_0.read.one.1
  have two_rH18_0 : yH18_0.oneCell' = true := hoH18_0.read.one.2
  try simp (maxSteps := 1000000) [go_sem, hbig0, hbih0, hneg0, hng13, hng15, hp11, one0, one_o6, one_rH18_0, one_rH4_0, one_rH8_0, sysV, tradeV, two0, two_o6, two_rH18_0, two_rH4_0, two_rH8_0, d0a, d0b, d0c, d0d, erH4_0a, erH4_0b, erH4_0c, erH4_0d, eo6a, eo6b, eo6c, eo6d, erH8_0a, erH8_0b, erH8_0c, erH8_0d]
  have bxrH18_0 := Holds.last H18 [.int .i64 (rInv p0 o0 i0).1.1, wH18_0, yH18_0]
  have hp19 : H18 <+: H18 ++ [(⟨[.int .i64 (rInv p0 o0 i0).1.1, wH18_0, yH18_0], true, true⟩ : Blk)] := List.prefix_append _ _
  have hbH19 : (H18 ++ [(⟨[.int .i64 (rInv p0 o0 i0).1.1, wH18_0, yH18_0], true, true⟩ : Blk)]).length = H18.length + 1 := by simp
  generalize H18 ++ [(⟨[.int .i64 (rInv p0 o0 i0).1.1, wH18_0, yH18_0], true, true⟩ : Blk)] = H19 at bxrH18_0 hp19 hbH19 ⊢
  replace bx0 := bx0.pre hp19
  replace bxrH4_0 := bxrH4_0.pre hp19
  replace bxo6 := bxo6.pre hp19
  replace bxrH8_0 := bxrH8_0.pre hp19
  replace hoo3 := hoo3.pre hp19
  replace hoH4_0 := hoH4_0.pre hp19
  replace mk13 := mk13.pre hp19
  replace mk15 := mk15.pre hp19
  replace hoo11 := hoo11.pre hp19
  replace hoo17 := hoo17.pre hp19
  replace hoH18_0 := hoH18_0.pre hp19
  replace qz0 := qz0.trans hp19
  have hlH19 := hp19.length_le
  obtain ⟨d0a, d0b, d0c, d0d⟩ := bx0.tr
  obtain ⟨erH4_0a, erH4_0b, erH4_0c, erH4_0d⟩ := bxrH4_0.tr
  obtain ⟨eo6a, eo6b, eo6c, eo6d⟩ := bxo6.tr
  obtain ⟨erH8_0a, erH8_0b, erH8_0c, erH8_0d⟩ := bxrH8_0.tr
  obtain ⟨erH18_0a, erH18_0b, erH18_0c, erH18_0d⟩ := bxrH18_0.tr
  try simp (maxSteps := 1000000) [go_sem, hbig0, hbih0, hneg0, hng13, hng15, hp11, one0, one_o6, one_rH18_0, one_rH4_0, one_rH8_0, sysV, tradeV, two0, two_o6, two_rH18_0, two_rH4_0, two_rH8_0, d0a, d0b, d0c, d0d, erH4_0a, erH4_0b, erH4_0c, erH4_0d, eo6a, eo6b, eo6c, eo6d, erH8_0a, erH8_0b, erH8_0c, erH8_0d, erH18_0a, erH18_0b, erH18_0c, erH18_0d]
  refine eqTrade_ok hoH18_0.read hoH4_0.read _ ?_
  intro H20 hp20
  replace bx0 := bx0.pre hp20
  replace bxrH4_0 := bxrH4_0.pre hp20
  replace bxo6 := bxo6.pre hp20
  replace bxrH8_0 := bxrH8_0.pre hp20
  replace bxrH18_0 := bxrH18_0.pre hp20
  replace hoo3 := hoo3.pre hp20
  replace hoH4_0 := hoH4_0.pre hp20
  replace mk13 := mk13.pre hp20
  replace mk15 := mk15.pre hp20
  replace hoo11 := hoo11.pre hp20
  replace hoo17 := hoo17.pre hp20
  replace hoH18_0 := hoH18_0.pre hp20
  replace qz0 := qz0.trans hp20
  have hlH20 := hp20.length_le
  obtain ⟨d0a, d0b, d0c, d0d⟩ := bx0.tr
  obtain ⟨erH4_0a, erH4_0b, erH4_0c, erH4_0d⟩ := bxrH4_0.tr
  obtain ⟨eo6a, eo6b, eo6c, eo6d⟩ := bxo6.tr
  obtain ⟨erH8_0a, erH8_0b, erH8_0c, erH8_0d⟩ := bxrH8_0.tr
  obtain ⟨erH18_0a, erH18_0b, erH18_0c, erH18_0d⟩ := bxrH18_0.tr
  try simp (maxSteps := 1000000) [go_sem, hbig0, hbih0, hneg0, hng13, hng15, hp11, one0, one_o6, one_rH18_0, one_rH4_0, one_rH8_0, sysV, tradeV, two0, two_o6, two_rH18_0, two_rH4_0, two_rH8_0, d0a, d0b, d0c, d0d, erH4_0a, erH4_0b, erH4_0c, erH4_0d, eo6a, eo6b, eo6c, eo6d, erH8_0a, erH8_0b, erH8_0c, erH8_0d, erH18_0a, erH18_0b, erH18_0c, erH18_0d]
  refine heldTr_ok mk15 hmlrH8_0 (by omega) (by omega) _ ?_
  intro H21 hp21
  replace bx0 := bx0.pre hp21
  replace bxrH4_0 := bxrH4_0.pre hp21
  replace bxo6 := bxo6.pre hp21
  replace bxrH8_0 := bxrH8_0.pre hp21
  replace bxrH18_0 := bxrH18_0.pre hp21
  replace hoo3 := hoo3.pre hp21
  replace hoH4_0 := hoH4_0.pre hp21
  replace mk13 := mk13.pre hp21
  replace mk15 := mk15.pre hp21
  replace hoo11 := hoo11.pre hp21
  replace hoo17 := hoo17.pre hp21
  replace hoH18_0 := hoH18_0.pre hp21
  replace qz0 := qz0.trans hp21
  have hlH21 := hp21.length_le
  obtain ⟨d0a, d0b, d0c, d0d⟩ := bx0.tr
  obtain ⟨erH4_0a, erH4_0b, erH4_0c, erH4_0d⟩ := bxrH4_0.tr
  obtain ⟨eo6a, eo6b, eo6c, eo6d⟩ := bxo6.tr
  obtain ⟨erH8_0a, erH8_0b, erH8_0c, erH8_0d⟩ := bxrH8_0.tr
  obtain ⟨erH18_0a, erH18_0b, erH18_0c, erH18_0d⟩ := bxrH18_0.tr
  try simp (maxSteps := 1000000) [go_sem, hbig0, hbih0, hneg0, hng13, hng15, hp11, one0, one_o6, one_rH18_0, one_rH4_0, one_rH8_0, sysV, tradeV, two0, two_o6, two_rH18_0, two_rH4_0, two_rH8_0, d0a, d0b, d0c, d0d, erH4_0a, erH4_0b, erH4_0c, erH4_0d, eo6a, eo6b, eo6c, eo6d, erH8_0a, erH8_0b, erH8_0c, erH8_0d, erH18_0a, erH18_0b, erH18_0c, erH18_0d]

end Go.Proofs.Ytakkmkinfeddeaa
end
