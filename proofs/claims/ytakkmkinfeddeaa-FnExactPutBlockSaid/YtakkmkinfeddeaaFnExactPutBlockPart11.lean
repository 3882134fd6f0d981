/- Part 11 of what the proof of the law FnExactPutBlock rests on: contracts of functions of the program, for every argument that each names; no statement of the seat is proved here. -/
import Derived.Test.YtakkmkinfeddeaaFnExactPutBlockPart10

section
/- InverseTrade, FitsSystem. -/
set_option linter.all false
set_option maxRecDepth 20000
set_option maxHeartbeats 8000000
namespace Go.Proofs.Ytakkmkinfeddeaa
open Go.Ab Go.Sort

theorem put3 {H H0 H' : Heap} {id : Nat} {cs0 cs : List Value} (hp0 : H <+: H0) (hid : H.length ≤ id) (hb0 : H0[id]? = some ⟨cs0, true, true⟩) (h2 : cs0.length = 3) (hp : H0 <+: H') (hcl : cs.length = 3) (ho : cs.all Value.oneCell' = true) :
    storeAt H' id 0 cs = some (H'.set id ⟨cs, true, true⟩) ∧ cellsAt (H'.set id ⟨cs, true, true⟩) id 0 3 = some cs ∧ H <+: H'.set id ⟨cs, true, true⟩ ∧ Same (fun j => j = id) H' (H'.set id ⟨cs, true, true⟩) := by
  have hb' := Same.get (S := fun _ => False) (Same.of_prefix hp) hb0 (fun h => h)
  have hsame : Same (fun j => j = id) H' (H'.set id ⟨cs, true, true⟩) := ⟨by simp, fun j hj hS => List.getElem?_set_ne (fun e => hS e.symm)⟩
  refine ⟨?_, ?_, ((Same.of_prefix (hp0.trans hp)).trans hsame).prefix (by intro j hj he; omega), hsame⟩
  · rw [storeAt_of hb' rfl rfl (by simp [hcl, h2]) ho]
    match cs, hcl, cs0, h2 with
    | [x, y, z], _, [a, b, c], _ => simp [over]
  · have := Holds.cells (n := 3) (o := 0) (H := H'.set id ⟨cs, true, true⟩) ⟨true, List.getElem?_set_self (List.getElem?_eq_some_iff.1 hb').1⟩ (by omega)
    rw [this, List.drop_zero, List.take_of_length_le (by omega)]

theorem zeroTr {H : Heap} : Up H (.agg #[.int .i64 0, .slice none 0 0, .slice none 0 0]) (tradeV 0 (lv 3 0 0 0) (lv 3 0 0 0)) := Up.agg ⟨Up.refl _ _, Up.nil _ _ _ _, Up.nil _ _ _ _, trivial⟩

noncomputable def rInv (p : Int) (o i : List Bk) : (Int × List Bk × List Bk) × Int := if tradeB p o i then ((p, i, o), 0) else ((0, [], []), 1)
theorem tradeB_sys {p : Int} {o i : List Bk} (h : tradeB p o i = true) : IsSys p o ∧ IsSys p i := by
  unfold tradeB at h
  rw [Bool.and_eq_true, Bool.and_eq_true] at h
  exact ⟨sysB_of h.1, sysB_of h.2.1⟩
theorem rInv_len (p : Int) (o i : List Bk) : (rInv p o i).1.2.1.length ≤ 1048576 ∧ (rInv p o i).1.2.2.length ≤ 1048576 := by
  unfold rInv
  split
  · rename_i h
    obtain ⟨h1, h2⟩ := tradeB_sys h
    have := h1.2.1; have := h2.2.1
    simp only; omega
  · simp
theorem sys_sort {p : Int} {bs : List Bk} (h : IsSys p bs) : sortB bs = bs := sortB_asc (asc_of _ rfl h.2.2.1)

theorem l04Made_ok {H : Heap} {u w : Value} {p : Int} {o i : List Bk} (hu : BlocksAt H u o) (hw : BlocksAt H w i) (hl : o.length ≤ 1048576) (hl' : i.length ≤ 1048576) (Post : Value → Heap → Prop)
    (h : ∀ H' v x, H <+: H' → TradeIn H.length H'.length H' v x (sortB o) (sortB i) → Post (tradeV p v x) H') : ACalls Try.prog 135 [.int .i64 p, u, w] H Post := by
  refine acalls_vc (rs := [.cell 6 62]) Try.func135 rfl rfl Try.ntmps135 rfl rfl ?_
  simp (maxSteps := 1000000) [go_sem]
  have hp0 : H <+: H ++ [⟨[.int .i64 0, .slice none 0 0, .slice none 0 0], true, true⟩] := List.prefix_append _ _
  have hb0 : (H ++ [(⟨[.int .i64 0, .slice none 0 0, .slice none 0 0], true, true⟩ : Blk)])[H.length]? = some ⟨[.int .i64 0, .slice none 0 0, .slice none 0 0], true, true⟩ := by simp
  have hlen : (H ++ [(⟨[.int .i64 0, .slice none 0 0, .slice none 0 0], true, true⟩ : Blk)]).length = H.length + 1 := by simp
  generalize H ++ [(⟨[.int .i64 0, .slice none 0 0, .slice none 0 0], true, true⟩ : Blk)] = H0 at hp0 hb0 hlen ⊢
  refine l01Sort_ok (hu.pre hp0) hl _ ?_
  intro H1 v1 hp1 hv1
  simp (maxSteps := 1000000) [go_sem]
  refine l01Sort_ok (hw.pre (hp0.trans hp1)) hl' _ ?_
  intro H2 v2 hp2 hv2
  have hv1' := hv1.pre hp2
  have hv2' := hv2
  obtain ⟨id1, ⟨rfl, _⟩, _⟩ := hv1
  obtain ⟨id2, ⟨rfl, _⟩, _⟩ := hv2
  obtain ⟨q1, q2, q3, q4⟩ := put3 (cs := [.int .i64 p, lv 3 id1 0 (sortB o).length, lv 3 id2 0 (sortB i).length]) hp0 (Nat.le_refl _) hb0 rfl (hp1.trans hp2) rfl rfl
  have hle1 := hp1.length_le
  have hle2 := hp2.length_le
  simp (maxSteps := 1000000) [go_sem, q1, q2]
  refine h _ _ _ q3 ?_
  rw [List.length_set]
  exact ⟨H1.length, by omega, by omega, (hv1'.keep q4 (fun j hj e => by have := hj.1; omega)).wider (by omega), hv2'.keep q4 (fun j hj e => by have := hj.1; omega)⟩

theorem specInverse_ok {H : Heap} {u w : Value} {p : Int} {o i : List Bk} (ht : TradeAt H u w o i) (hl : o.length ≤ 1048576 ∧ i.length ≤ 1048576) (Post : Value → Heap → Prop)
    (h : ∀ H' v x, H <+: H' → TradeIn H.length H'.length H' v x (rInv p o i).1.2.1 (rInv p o i).1.2.2 → Post (.tuple #[tradeV (rInv p o i).1.1 v x, .int .i64 (rInv p o i).2]) H') : ACalls Try.prog 59 [tradeV p u w] H Post := by
  obtain ⟨ou, ow⟩ := ht.one
  refine ACalls.res ?_
  refine acalls_vc (rs := [.cell 2 62, .tmp 3]) Try.func59 rfl rfl Try.ntmps59 rfl rfl ?_
  simp (maxSteps := 1000000) [go_sem, tradeV, ou, ow]
  have hp0 : H <+: H ++ [⟨[.int .i64 p, u, w], true, true⟩, ⟨[.int .i64 0, .slice none 0 0, .slice none 0 0], true, true⟩] := List.prefix_append _ _
  have hx0 : Holds (H ++ [(⟨[.int .i64 p, u, w], true, true⟩ : Blk), ⟨[.int .i64 0, .slice none 0 0, .slice none 0 0], true, true⟩]) H.length [.int .i64 p, u, w] := ⟨true, by simp⟩
  have hb0 : (H ++ [(⟨[.int .i64 p, u, w], true, true⟩ : Blk), ⟨[.int .i64 0, .slice none 0 0, .slice none 0 0], true, true⟩])[H.length + 1]? = some ⟨[.int .i64 0, .slice none 0 0, .slice none 0 0], true, true⟩ := by simp
  have hlen : (H ++ [(⟨[.int .i64 p, u, w], true, true⟩ : Blk), ⟨[.int .i64 0, .slice none 0 0, .slice none 0 0], true, true⟩]).length = H.length + 2 := by simp
  generalize H ++ [(⟨[.int .i64 p, u, w], true, true⟩ : Blk), ⟨[.int .i64 0, .slice none 0 0, .slice none 0 0], true, true⟩] = H0 at hp0 hx0 hb0 hlen ⊢
  refine l04Is_ok (ht.1.pre hp0) (ht.2.pre hp0) hl.1 hl.2 _ ?_
  intro H1 hp1
  obtain ⟨d0, d1, d2, d3⟩ := (hx0.pre hp1).tr
  cases hs : tradeB p o i with
  | false =>
    have hr : rInv p o i = ((0, [], []), 1) := by simp [rInv, hs]
    obtain ⟨q1, q2, q3, q4⟩ := put3 (cs := [.int .i64 0, .slice none 0 0, .slice none 0 0]) hp0 (show H.length ≤ H.length + 1 by omega) hb0 rfl hp1 rfl rfl
    have fin := h _ (lv 3 0 0 0) (lv 3 0 0 0) q3 (by rw [hr]; exact TradeIn.nil (by rw [List.length_set]; have := hp1.length_le; omega) _)
    rw [hr] at fin
    simp (maxSteps := 1000000) [go_sem, q1, q2]
    exact ⟨_, Up.tuple (ys := #[tradeV 0 (lv 3 0 0 0) (lv 3 0 0 0), .int .i64 1]) ⟨zeroTr, Up.refl _ _, trivial⟩, fin⟩
  | true =>
    obtain ⟨hS1, hS2⟩ := tradeB_sys hs
    have hr : rInv p o i = ((p, i, o), 0) := by simp [rInv, hs]
    simp (maxSteps := 1000000) [go_sem, d1, d2, d3]
    refine l04Made_ok (ht.2.pre (hp0.trans hp1)) (ht.1.pre (hp0.trans hp1)) hl.2 hl.1 _ ?_
    intro H2 v x hp2 hv
    rw [sys_sort hS1, sys_sort hS2] at hv
    obtain ⟨a1, a2⟩ := hv.read.one
    obtain ⟨q1, q2, q3, q4⟩ := put3 (cs := [.int .i64 p, v, x]) hp0 (show H.length ≤ H.length + 1 by omega) hb0 rfl (hp1.trans hp2) rfl (by simp [a1, a2, one_int])
    have hle1 := hp1.length_le
    have fin := h _ v x q3 (by rw [hr, List.length_set]; exact (hv.keep q4 (fun j hj e => by have := hj.1; omega)).wider (by omega))
    rw [hr] at fin
    simp (maxSteps := 1000000) [go_sem, tradeV, q1, q2]
    exact ⟨_, Up.refl _ _, fin⟩

theorem implInverse_ok {H : Heap} {u w : Value} {p : Int} {o i : List Bk} (ht : TradeAt H u w o i) (hl : o.length ≤ 1048576 ∧ i.length ≤ 1048576) (Post : Value → Heap → Prop)
    (h : ∀ H' v x, H <+: H' → TradeIn H.length H'.length H' v x (rInv p o i).1.2.1 (rInv p o i).1.2.2 → Post (.tuple #[tradeV (rInv p o i).1.1 v x, .int .i64 (rInv p o i).2]) H') : ACalls Try.prog 60 [tradeV p u w] H Post := by
  obtain ⟨ou, ow⟩ := ht.one
  refine ACalls.res ?_
  refine acalls_vc (rs := [.cell 2 62, .tmp 3]) Try.func60 rfl rfl Try.ntmps60 rfl rfl ?_
  simp (maxSteps := 1000000) [go_sem, tradeV, ou, ow]
  have hp0 : H <+: H ++ [⟨[.int .i64 p, u, w], true, true⟩, ⟨[.int .i64 0, .slice none 0 0, .slice none 0 0], true, true⟩] := List.prefix_append _ _
  have hx0 : Holds (H ++ [(⟨[.int .i64 p, u, w], true, true⟩ : Blk), ⟨[.int .i64 0, .slice none 0 0, .slice none 0 0], true, true⟩]) H.length [.int .i64 p, u, w] := ⟨true, by simp⟩
  have hb0 : (H ++ [(⟨[.int .i64 p, u, w], true, true⟩ : Blk), ⟨[.int .i64 0, .slice none 0 0, .slice none 0 0], true, true⟩])[H.length + 1]? = some ⟨[.int .i64 0, .slice none 0 0, .slice none 0 0], true, true⟩ := by simp
  have hlen : (H ++ [(⟨[.int .i64 p, u, w], true, true⟩ : Blk), ⟨[.int .i64 0, .slice none 0 0, .slice none 0 0], true, true⟩]).length = H.length + 2 := by simp
  generalize H ++ [(⟨[.int .i64 p, u, w], true, true⟩ : Blk), ⟨[.int .i64 0, .slice none 0 0, .slice none 0 0], true, true⟩] = H0 at hp0 hx0 hb0 hlen ⊢
  have tv : Value.agg #[.int .i64 p, u, w] = tradeV p u w := rfl
  refine implIsTrade (ht.1.pre hp0) (ht.2.pre hp0) _ ?_
  intro H1 hp1
  obtain ⟨d0, d1, d2, d3⟩ := (hx0.pre hp1).tr
  cases hs : tradeB p o i with
  | false =>
    have hr : rInv p o i = ((0, [], []), 1) := by simp [rInv, hs]
    obtain ⟨q1, q2, q3, q4⟩ := put3 (cs := [.int .i64 0, .slice none 0 0, .slice none 0 0]) hp0 (show H.length ≤ H.length + 1 by omega) hb0 rfl hp1 rfl rfl
    have fin := h _ (lv 3 0 0 0) (lv 3 0 0 0) q3 (by rw [hr]; exact TradeIn.nil (by rw [List.length_set]; have := hp1.length_le; omega) _)
    rw [hr] at fin
    simp (maxSteps := 1000000) [go_sem, q1, q2]
    exact ⟨_, Up.tuple (ys := #[tradeV 0 (lv 3 0 0 0) (lv 3 0 0 0), .int .i64 1]) ⟨zeroTr, Up.refl _ _, trivial⟩, fin⟩
  | true =>
    have hr : rInv p o i = ((p, i, o), 0) := by simp [rInv, hs]
    simp (maxSteps := 1000000) [go_sem]
    refine AWp.draw mixed [(0, false), (1, false), (2, false), (3, false), (5, false), (6, false), (4, true), (7, true), (8, false), (9, false), (10, false)] (by kernel_rfl) ?_
    simp (maxSteps := 1000000) [go_sem, d1, d2, d3]
    refine cloneB_ok (ht.2.pre (hp0.trans hp1)) hl.2 _ ?_
    intro H2 v hp2 hv
    obtain ⟨d0, d1, d2, d3⟩ := (hx0.pre (hp1.trans hp2)).tr
    simp (maxSteps := 1000000) [go_sem, hp2, d1, d2, d3]
    refine cloneB_ok (ht.1.pre (hp0.trans (hp1.trans hp2))) hl.1 _ ?_
    intro H3 x hp3 hx
    have hv' := hv.pre hp3
    have hx' := hx
    obtain ⟨id1, ⟨rfl, _⟩, _⟩ := hv
    obtain ⟨id2, ⟨rfl, _⟩, _⟩ := hx
    obtain ⟨q1, q2, q3, q4⟩ := put3 (cs := [.int .i64 p, lv 3 id1 0 i.length, lv 3 id2 0 o.length]) hp0 (show H.length ≤ H.length + 1 by omega) hb0 rfl (hp1.trans (hp2.trans hp3)) rfl rfl
    have hle1 := hp1.length_le
    have hle2 := hp2.length_le
    have hle3 := hp3.length_le
    have hin : TradeIn H.length H3.length (H3.set (H.length + 1) ⟨[.int .i64 p, lv 3 id1 0 i.length, lv 3 id2 0 o.length], true, true⟩) (lv 3 id1 0 i.length) (lv 3 id2 0 o.length) i o :=
      ⟨H2.length, by omega, by omega, (hv'.keep q4 (fun j hj e => by have := hj.1; omega)).wider (by omega), hx'.keep q4 (fun j hj e => by have := hj.1; omega)⟩
    have fin := h _ _ _ q3 (by rw [hr, List.length_set]; exact hin)
    rw [hr] at fin
    simp (maxSteps := 1000000) [go_sem, hp3, q1, q2]
    exact ⟨_, Up.refl _ _, fin⟩

end Go.Proofs.Ytakkmkinfeddeaa
end

section
/- FitsSystem, both sides. -/
set_option linter.all false
set_option maxRecDepth 20000
set_option maxHeartbeats 8000000
namespace Go.Proofs.Ytakkmkinfeddeaa
open Go.Ab Go.Sort

noncomputable def rFits (p : Int) (bs : List Bk) (q : Int) (o i : List Bk) : Bool × Int := if sysB p bs && tradeB q o i then (fitsB p bs q o, 0) else (false, 1)

theorem filter_len {α : Type} (f : α → Bool) : ∀ l : List α, (decide ((l.filter f).length = l.length)) = l.all f
  | [] => rfl
  | x :: l => by
    have ih := filter_len f l
    have hle := List.length_filter_le f l
    cases h : f x with
    | true => simp [h, ← ih]
    | false =>
      simp only [List.filter_cons, h, List.all_cons, Bool.false_and]
      simp only [Bool.false_eq_true, if_false, List.length_cons]
      exact decide_eq_false (by omega)

theorem implFits_ok {H : Heap} {u v w : Value} {p q : Int} {bs o i : List Bk} (hu : BlocksAt H u bs) (ht : TradeAt H v w o i) (hl : o.length ≤ 1048576) (Post : Value → Heap → Prop) (h : ∀ H', H <+: H' → Post (.bool (fitsB p bs q o)) H') :
    ACalls Try.prog 134 [sysV p u, tradeV q v w] H Post := by
  have ou := hu.one
  obtain ⟨ov, ow⟩ := ht.one
  refine acalls_vc (rs := [.tmp 4]) Try.func134 rfl rfl Try.ntmps134 rfl rfl ?_
  simp (maxSteps := 1000000) [go_sem, sysV, tradeV, ou, ov, ow]
  have hp0 : H <+: H ++ [⟨[.int .i64 p, u], true, true⟩, ⟨[.int .i64 q, v, w], true, true⟩] := List.prefix_append _ _
  have hx0 : Holds (H ++ [(⟨[.int .i64 p, u], true, true⟩ : Blk), ⟨[.int .i64 q, v, w], true, true⟩]) H.length [.int .i64 p, u] := ⟨true, by simp⟩
  have hy0 : Holds (H ++ [(⟨[.int .i64 p, u], true, true⟩ : Blk), ⟨[.int .i64 q, v, w], true, true⟩]) (H.length + 1) [.int .i64 q, v, w] := ⟨true, by simp⟩
  generalize H ++ [(⟨[.int .i64 p, u], true, true⟩ : Blk), ⟨[.int .i64 q, v, w], true, true⟩] = H0 at hp0 hx0 hy0 ⊢
  have hv1 := ht.1
  obtain ⟨j, r, ev, _, _⟩ := hv1
  subst ev
  obtain ⟨d0, d1, d2⟩ := hx0.sys
  obtain ⟨e0, e1, e2, e3⟩ := hy0.tr
  refine AWp.draw mixed [(0, false), (1, false), (2, false), (3, false), (4, false), (5, false), (6, false), (7, false), (8, false), (9, false), (12, false), (13, false), (14, false), (10, true), (11, false), (15, false), (16, false), (17, false)] (by kernel_rfl) ?_
  by_cases hpq : p = q
  · have hpq' : (p == q) = true := by simpa using hpq
    simp (maxSteps := 1000000) [go_sem, d1, d2, e1, e2, hpq, hpq']
    refine implCommon_ok (ht.1.pre hp0) (hu.pre hp0) hl _ ?_
    intro H1 x hp1 hx
    obtain ⟨f0, f1, f2, f3⟩ := (hy0.pre hp1).tr
    obtain ⟨id, ⟨rfl, _⟩, _⟩ := hx
    have fin := h H1 (hp0.trans hp1)
    have hfl := filter_len (memB bs) o
    have e : fitsB p bs q o = decide ((o.filter (memB bs)).length = o.length) := by rw [hfl]; unfold fitsB; rw [decide_eq_true hpq, Bool.true_and]
    rw [e] at fin
    generalize (o.filter (memB bs)).length = m at *
    have hbm : ((m : Int) == (o.length : Int)) = decide (m = o.length) := by
      by_cases hm : m = o.length
      · simp [hm]
      · have : ((m : Int) == (o.length : Int)) = false := by rw [beq_eq_false_iff_ne]; omega
        rw [this, decide_eq_false hm]
    simp (maxSteps := 1000000) [go_sem, hp1, f2, hbm]
    exact fin
  · have hpq' : (p == q) = false := by rw [beq_eq_false_iff_ne]; exact hpq
    have fin := h H0 hp0
    have e : fitsB p bs q o = false := by simp [fitsB, hpq]
    rw [e] at fin
    simp (maxSteps := 1000000) [go_sem, undef, d1, d2, e1, e2, hpq, hpq']
    exact fin

theorem l04Fits_ok {H : Heap} {u v w : Value} {p q : Int} {bs o i : List Bk} (hu : BlocksAt H u bs) (ht : TradeAt H v w o i) (hl : o.length ≤ 1048576) (Post : Value → Heap → Prop) (h : ∀ H', H <+: H' → Post (.bool (fitsB p bs q o)) H') :
    ACalls Try.prog 133 [sysV p u, tradeV q v w] H Post := by
  have ou := hu.one
  obtain ⟨ov, ow⟩ := ht.one
  refine acalls_vc (rs := [.tmp 4]) Try.func133 rfl rfl Try.ntmps133 rfl rfl ?_
  simp (maxSteps := 1000000) [go_sem, sysV, tradeV, ou, ov, ow]
  have hp0 : H <+: H ++ [⟨[.int .i64 p, u], true, true⟩, ⟨[.int .i64 q, v, w], true, true⟩] := List.prefix_append _ _
  have hx0 : Holds (H ++ [(⟨[.int .i64 p, u], true, true⟩ : Blk), ⟨[.int .i64 q, v, w], true, true⟩]) H.length [.int .i64 p, u] := ⟨true, by simp⟩
  have hy0 : Holds (H ++ [(⟨[.int .i64 p, u], true, true⟩ : Blk), ⟨[.int .i64 q, v, w], true, true⟩]) (H.length + 1) [.int .i64 q, v, w] := ⟨true, by simp⟩
  generalize H ++ [(⟨[.int .i64 p, u], true, true⟩ : Blk), ⟨[.int .i64 q, v, w], true, true⟩] = H0 at hp0 hx0 hy0 ⊢
  by_cases hpq : p = q
  · have hpq' : (p != q) = false := by simp [hpq]
    have e : fitsB p bs q o = o.all (memB bs) := by simp [fitsB, hpq]
    rw [e] at h
    try simp (maxSteps := 1000000) [go_sem, hpq, hpq']
    refine AWp.loopVc (fun s : Nat => [(2, .pointer (some ⟨H.length, 0, none⟩)), (3, .pointer (some ⟨H.length + 1, 0, none⟩)), (5, .int .i64 s)])
      (fun s H' => s ≤ o.length ∧ H0 <+: H' ∧ ∀ b ∈ o.take s, memB bs b = true) (fun s => o.length - s) 0 ?_ ?_ ?_
    · simp [upF, Fr.get, Up.refl]
    · exact ⟨by omega, List.prefix_refl _, by simp⟩
    · rintro K s H1 ⟨hs, hp1, hf⟩ hK
      obtain ⟨d0, d1, d2⟩ := (hx0.pre hp1).sys
      obtain ⟨e0, e1, e2, e3⟩ := (hy0.pre hp1).tr
      have hu1 := hu.pre (hp0.trans hp1)
      obtain ⟨j, r, ev, g1, g2⟩ := ht.1.pre (hp0.trans hp1)
      subst ev
      by_cases hlt : s < o.length
      · have hbs : o[s]? = some o[s] := List.getElem?_eq_getElem hlt
        have c1 := g1.bk hbs
        simp only [Bk.cells] at c1
        have htk := List.take_succ_eq_append_getElem hlt
        have hmem := List.mem_of_getElem? hbs
        generalize o[s] = b at *
        have hw_s : IntKind.i64.wrap ((s : Int) + 1) = (s : Int) + 1 := i64w (by omega) (by omega)
        simp (maxSteps := 1000000) [go_sem, hlt, e2]
        refine AWp.draw mixed [(0, false), (1, false), (2, false), (3, false), (4, false), (5, false), (6, false), (7, false)] (by kernel_rfl) ?_
        simp (maxSteps := 1000000) [go_sem, hlt, d0, e2, c1]
        refine l01Has_ok (b := b) hu1 _ ?_
        intro H2 hp2
        cases hm : memB bs b with
        | false =>
          have fin := h H2 (hp0.trans (hp1.trans hp2))
          have e : o.all (memB bs) = false := List.all_eq_false.2 ⟨b, hmem, by simp [hm]⟩
          rw [e] at fin
          simp (maxSteps := 1000000) [go_sem]
          exact fin
        | true =>
          simp (maxSteps := 1000000) [go_sem, hw_s]
          refine hK (s + 1) _ _ (by omega) (by simp [upF, Fr.get, Up.refl]) ⟨by omega, hp1.trans hp2, ?_⟩
          intro x hx
          rw [htk, List.mem_append] at hx
          rcases hx with hx | hx
          · exact hf x hx
          · simp at hx; subst hx; exact hm
      · have : s = o.length := by omega
        subst this
        rw [List.take_length] at hf
        have fin := h H1 (hp0.trans hp1)
        have e : o.all (memB bs) = true := List.all_eq_true.2 hf
        rw [e] at fin
        simp (maxSteps := 1000000) [go_sem, e2]
        exact fin
  · have hpq' : (p != q) = true := by simp [hpq]
    have fin := h H0 hp0
    have e : fitsB p bs q o = false := by simp [fitsB, hpq]
    rw [e] at fin
    try simp (maxSteps := 1000000) [go_sem, hpq, hpq']
    exact fin

theorem specFitsSystem_ok {H : Heap} {u v w : Value} {p q : Int} {bs o i : List Bk} (hu : BlocksAt H u bs) (hlu : bs.length ≤ 1048576) (ht : TradeAt H v w o i) (hl : o.length ≤ 1048576 ∧ i.length ≤ 1048576) (Post : Value → Heap → Prop)
    (h : ∀ H', H <+: H' → Post (.tuple #[.bool (rFits p bs q o i).1, .int .i64 (rFits p bs q o i).2]) H') : ACalls Try.prog 57 [sysV p u, tradeV q v w] H Post := by
  have ou := hu.one
  obtain ⟨ov, ow⟩ := ht.one
  refine acalls_vc (rs := [.tmp 4, .tmp 5]) Try.func57 rfl rfl Try.ntmps57 rfl rfl ?_
  simp (maxSteps := 1000000) [go_sem, sysV, tradeV, ou, ov, ow]
  have hp0 : H <+: H ++ [⟨[.int .i64 p, u], true, true⟩, ⟨[.int .i64 q, v, w], true, true⟩] := List.prefix_append _ _
  have hx0 : Holds (H ++ [(⟨[.int .i64 p, u], true, true⟩ : Blk), ⟨[.int .i64 q, v, w], true, true⟩]) H.length [.int .i64 p, u] := ⟨true, by simp⟩
  have hy0 : Holds (H ++ [(⟨[.int .i64 p, u], true, true⟩ : Blk), ⟨[.int .i64 q, v, w], true, true⟩]) (H.length + 1) [.int .i64 q, v, w] := ⟨true, by simp⟩
  generalize H ++ [(⟨[.int .i64 p, u], true, true⟩ : Blk), ⟨[.int .i64 q, v, w], true, true⟩] = H0 at hp0 hx0 hy0 ⊢
  refine l01Is' (hu.pre hp0) hlu _ ?_
  intro H1 hp1
  obtain ⟨e0, e1, e2, e3⟩ := (hy0.pre hp1).tr
  cases hs : sysB p bs with
  | false =>
    have fin := h H1 (hp0.trans hp1)
    simp only [rFits, hs, Bool.false_and, Bool.false_eq_true, if_false] at fin
    simp (maxSteps := 1000000) [go_sem, undef]
    exact fin
  | true =>
    simp (maxSteps := 1000000) [go_sem, e0]
    refine l04Is_ok (ht.1.pre (hp0.trans hp1)) (ht.2.pre (hp0.trans hp1)) hl.1 hl.2 _ ?_
    intro H2 hp2
    obtain ⟨d0, d1, d2⟩ := (hx0.pre (hp1.trans hp2)).sys
    obtain ⟨e0, e1, e2, e3⟩ := (hy0.pre (hp1.trans hp2)).tr
    cases hs2 : tradeB q o i with
    | false =>
      have fin := h H2 (hp0.trans (hp1.trans hp2))
      simp only [rFits, hs, hs2, Bool.and_false, Bool.false_eq_true, if_false] at fin
      simp (maxSteps := 1000000) [go_sem]
      exact fin
    | true =>
      simp (maxSteps := 1000000) [go_sem, d0, e0]
      refine l04Fits_ok (hu.pre (hp0.trans (hp1.trans hp2))) (ht.pre (hp0.trans (hp1.trans hp2))) hl.1 _ ?_
      intro H3 hp3
      have fin := h H3 (hp0.trans (hp1.trans (hp2.trans hp3)))
      simp only [rFits, hs, hs2, Bool.and_self, if_true] at fin
      simp (maxSteps := 1000000) [go_sem]
      exact fin

theorem implFitsSystem_ok {H : Heap} {u v w : Value} {p q : Int} {bs o i : List Bk} (hu : BlocksAt H u bs) (hlu : bs.length ≤ 1048576) (ht : TradeAt H v w o i) (hl : o.length ≤ 1048576 ∧ i.length ≤ 1048576) (Post : Value → Heap → Prop)
    (h : ∀ H', H <+: H' → Post (.tuple #[.bool (rFits p bs q o i).1, .int .i64 (rFits p bs q o i).2]) H') : ACalls Try.prog 58 [sysV p u, tradeV q v w] H Post := by
  have ou := hu.one
  obtain ⟨ov, ow⟩ := ht.one
  refine acalls_vc (rs := [.tmp 4, .tmp 5]) Try.func58 rfl rfl Try.ntmps58 rfl rfl ?_
  simp (maxSteps := 1000000) [go_sem, sysV, tradeV, ou, ov, ow]
  have hp0 : H <+: H ++ [⟨[.int .i64 p, u], true, true⟩, ⟨[.int .i64 q, v, w], true, true⟩] := List.prefix_append _ _
  have hx0 : Holds (H ++ [(⟨[.int .i64 p, u], true, true⟩ : Blk), ⟨[.int .i64 q, v, w], true, true⟩]) H.length [.int .i64 p, u] := ⟨true, by simp⟩
  have hy0 : Holds (H ++ [(⟨[.int .i64 p, u], true, true⟩ : Blk), ⟨[.int .i64 q, v, w], true, true⟩]) (H.length + 1) [.int .i64 q, v, w] := ⟨true, by simp⟩
  generalize H ++ [(⟨[.int .i64 p, u], true, true⟩ : Blk), ⟨[.int .i64 q, v, w], true, true⟩] = H0 at hp0 hx0 hy0 ⊢
  refine implIsSys (hu.pre hp0) _ ?_
  intro H1 hp1
  obtain ⟨e0, e1, e2, e3⟩ := (hy0.pre hp1).tr
  cases hs : sysB p bs with
  | false =>
    have fin := h H1 (hp0.trans hp1)
    simp only [rFits, hs, Bool.false_and, Bool.false_eq_true, if_false] at fin
    simp (maxSteps := 1000000) [go_sem, undef]
    exact fin
  | true =>
    simp (maxSteps := 1000000) [go_sem, e0]
    refine implIsTrade (ht.1.pre (hp0.trans hp1)) (ht.2.pre (hp0.trans hp1)) _ ?_
    intro H2 hp2
    obtain ⟨d0, d1, d2⟩ := (hx0.pre (hp1.trans hp2)).sys
    obtain ⟨e0, e1, e2, e3⟩ := (hy0.pre (hp1.trans hp2)).tr
    cases hs2 : tradeB q o i with
    | false =>
      have fin := h H2 (hp0.trans (hp1.trans hp2))
      simp only [rFits, hs, hs2, Bool.and_false, Bool.false_eq_true, if_false] at fin
      simp (maxSteps := 1000000) [go_sem]
      exact fin
    | true =>
      simp (maxSteps := 1000000) [go_sem, d0, e0]
      refine implFits_ok (hu.pre (hp0.trans (hp1.trans hp2))) (ht.pre (hp0.trans (hp1.trans hp2))) hl.1 _ ?_
      intro H3 hp3
      have fin := h H3 (hp0.trans (hp1.trans (hp2.trans hp3)))
      simp only [rFits, hs, hs2, Bool.and_self, if_true] at fin
      simp (maxSteps := 1000000) [go_sem]
      exact fin

end Go.Proofs.Ytakkmkinfeddeaa
end

section
/- The blocks of a list that are not in another one: both sides (slices.DeleteFunc over blocks). -/
set_option linter.all false
set_option maxRecDepth 20000
set_option maxHeartbeats 8000000
namespace Go.Proofs.Ytakkmkinfeddeaa
open Go.Ab Go.Sort

/-- A block of which only the first cells are told. -/
theorem _root_.Go.Ab.upH.cut {H : Heap} {id : Nat} {cs cs' : List Value} {li ow : Bool} (hb : H[id]? = some ⟨cs ++ cs', li, ow⟩) : upH H (H.set id ⟨cs, li, ow⟩) := by
  intro B w0 ρ w hR
  have hlt := (List.getElem?_eq_some_iff.1 hb).1
  have key : ∀ (i : Nat) (b : Blk), (H.set id ⟨cs, li, ow⟩)[i]? = some b → (i = id ∧ b = ⟨cs, li, ow⟩) ∨ (i ≠ id ∧ H[i]? = some b) := by
    intro i b h
    by_cases e : i = id
    · subst e; rw [List.getElem?_set_self hlt] at h; exact .inl ⟨rfl, (Option.some.inj h).symm⟩
    · rw [List.getElem?_set_ne (fun h => e h.symm)] at h; exact .inr ⟨e, h⟩
  have old : ∀ (i : Nat) (b : Blk), (H.set id ⟨cs, li, ow⟩)[i]? = some b → ∃ b', H[i]? = some b' ∧ b'.live = b.live ∧ b'.own = b.own := by
    intro i b h
    rcases key i b h with ⟨rfl, rfl⟩ | ⟨_, h⟩
    · exact ⟨_, hb, rfl, rfl⟩
    · exact ⟨b, h, rfl, rfl⟩
  refine ⟨by rw [List.length_set]; exact hR.len, hR.below, hR.base, ?_, ?_, ?_⟩
  · intro i b l h hl' hlive
    rcases key i b h with ⟨rfl, rfl⟩ | ⟨_, h⟩
    · obtain ⟨arr, elem, fz, h1, h2, h3, h4⟩ := hR.blk i _ l hb hl' hlive
      refine ⟨arr, elem, fz, h1, h2, ?_, h4⟩
      intro k v hk
      exact h3 k v (by rw [List.getElem?_append_left (List.getElem?_eq_some_iff.1 hk).1]; exact hk)
    · exact hR.blk i b l h hl' hlive
  · intro i j b c l m hij h1 h2 h3 h4 h5 h6 h7
    obtain ⟨b', e1, e2, e3⟩ := old i b h1
    obtain ⟨c', f1, f2, f3⟩ := old j c h2
    exact hR.apart i j b' c' l m hij e1 f1 h3 h4 (by rw [e2]; exact h5) (by rw [f2]; exact h6) (by rw [e3]; exact h7)
  · intro i b l h1 h2 h3 h4
    obtain ⟨b', e1, e2, e3⟩ := old i b h1
    exact hR.ghost i b' l e1 h2 (by rw [e2]; exact h3) (by rw [e3]; exact h4)

/-- A function value that tells of blocks, whatever stands in the block id. -/
def TellsS (g : FuncId) (fs cs : List Value) (P : Bk → Bool) (id : Nat) (H : Heap) : Prop :=
  ∀ (H' : Heap) (x : Bk) (Post : Value → Heap → Prop), Same (fun k => k = id) H H' → (∀ H'', H' <+: H'' → Post (.bool (P x)) H'') → ACalls Try.prog g (fs ++ x.val :: cs) H' Post

theorem deleteFunc0_ok {H : Heap} {id : Nat} {g : FuncId} {fs cs : List Value} (Post : Value → Heap → Prop) (h : ∀ H', H <+: H' → Post (lv 3 id 0 0) H') :
    ACalls Try.prog 182 [lv 3 id 0 0, .func (.func g) fs.toArray cs.toArray] H Post := by
  refine acalls_vc (rs := [.tmp 4]) Try.func182 rfl rfl Try.ntmps182 rfl rfl ?_
  simp (maxSteps := 1000000) [go_sem]
  refine indexFuncB_ok (P := fun _ => true) (xs := []) ⟨id, 0, rfl, .inl rfl, by simp⟩ (fun H' x Post _ hx => by cases hx) _ ?_
  intro H1 n hp1 hn
  have : n = -1 := by
    rcases hn with ⟨e, _⟩ | ⟨s, x, _, e, _⟩
    · exact e
    · simp at e
  subst this
  simp (maxSteps := 1000000) [go_sem]
  exact h H1 hp1

theorem deleteFuncB_ok {H : Heap} {id n : Nat} {xs : List Bk} {g : FuncId} {fs cs : List Value} {P : Bk → Bool} (hb : H[id]? = some ⟨tri xs, true, true⟩) (hn : xs.length = n) (hl : n ≤ 1048576) (hf : TellsS g fs cs P id H) (Post : Value → Heap → Prop)
    (h : ∀ (H' : Heap) (rest : List Value), Same (fun k => k = id) H H' → H'[id]? = some ⟨tri (xs.filter fun x => !P x) ++ rest, true, true⟩ → Post (lv 3 id 0 (xs.filter fun x => !P x).length) H') :
    ACalls Try.prog 182 [lv 3 id 0 n, .func (.func g) fs.toArray cs.toArray] H Post := by
  refine acalls_vc (rs := [.tmp 4]) Try.func182 rfl rfl Try.ntmps182 rfl rfl ?_
  simp (maxSteps := 1000000) [go_sem]
  subst hn
  refine indexFuncB_ok (P := P) (xs := xs) ⟨id, 0, rfl, Holds.at ⟨true, hb⟩, by omega⟩ (fun H' x Post hp _ hk => hf H' x Post (Same.of_prefix hp) hk) _ ?_
  intro H1 m hp1 hm
  have hb1 : H1[id]? = some ⟨tri xs, true, true⟩ := Same.get (S := fun _ => False) (Same.of_prefix hp1) hb (fun h => h)
  have hS1 : Same (fun k => k = id) H H1 := Same.of_prefix hp1
  rcases hm with ⟨rfl, hall⟩ | ⟨k, x, rfl, hk, hPk, hbefore⟩
  · have e : (xs.filter fun x => !P x) = xs := List.filter_eq_self.2 fun x hx => by simp [hall x hx]
    rw [e] at h
    have fin := h H1 [] hS1 (by simpa using hb1)
    simp (maxSteps := 1000000) [go_sem]
    exact fin
  · have hkl := (List.getElem?_eq_some_iff.1 hk).1
    have ek : ((k : Int) == -1) = false := by rw [beq_eq_false_iff_ne]; omega
    have ek' : ¬ (k : Int) = -1 := by omega
    have hw_k : IntKind.i64.wrap ((k : Int) + 1) = (k : Int) + 1 := i64w (by omega) (by omega)
    have f0 : (xs.take k).filter (fun x => !P x) = xs.take k := List.filter_eq_self.2 fun x hx => by simp [hbefore x hx]
    have hxk : xs[k] = x := (List.getElem?_eq_some_iff.1 hk).2
    simp (maxSteps := 1000000) [go_sem, ek, ek', hw_k]
    refine AWp.loopVc (St := Nat × Nat × List Bk) (fun s => [(0, lv 3 id 0 xs.length), (1, .func (.func g) fs.toArray cs.toArray), (5, .int .i64 s.1), (6, .int .i64 s.2.1)])
      (fun s H' => s.1 < s.2.1 ∧ s.2.1 ≤ xs.length ∧ s.2.2.length = xs.length ∧ s.2.2.take s.1 = (xs.take s.2.1).filter (fun x => !P x) ∧ s.2.2.drop s.2.1 = xs.drop s.2.1 ∧ Same (fun k => k = id) H H' ∧ H'[id]? = some ⟨tri s.2.2, true, true⟩) (fun s => xs.length - s.2.1) (k, k + 1, xs) ?_ ?_ ?_
    · simp [upF, Fr.get, Up.refl]
    · refine ⟨by simp, by simp only; omega, rfl, ?_, rfl, hS1, hb1⟩
      simp only
      rw [List.take_succ_eq_append_getElem hkl, List.filter_append, f0, hxk]
      simp [hPk]
    · rintro K ⟨i, j, d⟩ H2 ⟨hij, hj, hd, htk, hdr, hS2, hb2⟩ hK
      simp only at hij hj hd htk hdr hS2 hb2
      by_cases hlt : j < xs.length
      · have hw_j : IntKind.i64.wrap ((j : Int) + 1) = (j : Int) + 1 := i64w (by omega) (by omega)
        have hw_i : IntKind.i64.wrap ((i : Int) + 1) = (i : Int) + 1 := i64w (by omega) (by omega)
        have hdj : d[j]? = some xs[j] := by
          have := congrArg (fun z : List Bk => z[0]?) hdr
          simp only [List.getElem?_drop, Nat.add_zero] at this
          rw [this]; exact List.getElem?_eq_getElem hlt
        have hatd : At H2 id 0 (tri d) := Holds.at ⟨true, hb2⟩
        have c1 := hatd.bk hdj
        rw [Nat.zero_add] at c1
        have hxt := List.take_succ_eq_append_getElem hlt
        have hxd : xs.drop (j + 1) = d.drop (j + 1) := by
          have := congrArg (List.drop 1) hdr
          rw [List.drop_drop, List.drop_drop] at this
          exact this.symm
        generalize xs[j] = v at *
        simp only [Bk.cells] at c1
        simp (maxSteps := 1000000) [go_sem, hlt, c1]
        have hp3 : H2 <+: H2 ++ [⟨[.int .i64 v.a, .int .i64 v.b, .int .i64 v.c], true, true⟩] := List.prefix_append _ _
        have hx3 := Holds.last H2 [.int .i64 v.a, .int .i64 v.b, .int .i64 v.c]
        have hidl := (List.getElem?_eq_some_iff.1 hb2).1
        refine hf _ v _ (hS2.via (Same.of_prefix (S := fun _ => False) hp3) (fun _ _ h => h.elim)) ?_
        intro H4 hp4
        have hS4 : Same (fun k => k = id) H H4 := hS2.via (Same.of_prefix (S := fun _ => False) (hp3.trans hp4)) (fun _ _ h => h.elim)
        have hb4 : H4[id]? = some ⟨tri d, true, true⟩ := Same.get (S := fun _ => False) (Same.of_prefix (hp3.trans hp4)) hb2 (fun h => h)
        obtain ⟨e0, e1, e2, e3⟩ := (hx3.pre hp4).bk
        cases hP : P v with
        | true =>
          simp (maxSteps := 1000000) [go_sem, hw_j]
          refine hK (i, j + 1, d) _ _ (by simp only; omega) (by simp [upF, Fr.get, Up.refl]) ⟨by simp only; omega, by simp only; omega, hd, ?_, hxd.symm, hS4, hb4⟩
          simp only
          rw [hxt, List.filter_append, ← htk]
          simp [hP]
        | false =>
          have hst := storeBk (b := v) (s := i) hb4 (by omega)
          simp only [Bk.cells] at hst
          have hil : i < xs.length := by omega
          have hil' : (i : Int) < xs.length := by omega
          simp (maxSteps := 1000000) [go_sem, hw_j, hw_i, e0, hst, hil, hil']
          refine hK (i + 1, j + 1, d.set i v) _ _ (by simp only; omega) (by simp [upF, Fr.get, Up.refl]) ⟨by simp only; omega, by simp only; omega, by simp [hd], ?_, ?_, hS4.trans same_set, List.getElem?_set_self (List.getElem?_eq_some_iff.1 hb4).1⟩
          · simp only
            have hil2 : i < (d.set i v).length := by simp; omega
            rw [hxt, List.filter_append, ← htk, List.take_succ_eq_append_getElem hil2, List.getElem_set_self, List.take_set_of_le (Nat.le_refl _)]
            simp [hP]
          · simp only
            rw [List.drop_set_of_lt (by omega), hxd]
      · have : j = xs.length := by omega
        subst this
        rw [List.take_length] at htk
        have hil : i ≤ xs.length := by omega
        have hlen : (xs.filter fun x => !P x).length = i := by rw [← htk, List.length_take]; omega
        have ed : tri d = tri (d.take i) ++ tri (d.drop i) := by rw [← tri_append, List.take_append_drop]
        have hil0 : i < xs.length := hij
        have hil' : (i : Int) ≤ xs.length := by omega
        have hn0 : ¬ (xs.length - i = 0) := by omega
        have hn1 : ¬ (xs.length ≤ i) := by omega
        simp (maxSteps := 1000000) [go_sem, sliceV, boundV, lenV, hil, hil', hn0, hn1]
        obtain ⟨z, hz⟩ : ∃ z : List Value, z = (Builtin.zeroCells #[Value.int IntKind.i64 0, Value.int IntKind.i64 0, Value.int IntKind.i64 0] (xs.length - i)).toList := ⟨_, rfl⟩
        have hzl : z.length = (xs.length - i) * 3 := by rw [hz]; simp [Builtin.zeroCells]
        have hzo : z.all Value.oneCell' = true := by
          rw [hz, List.all_eq_true]
          intro v hv
          unfold Builtin.zeroCells at hv
          rw [Array.mem_toList_iff, Array.mem_map] at hv
          obtain ⟨k, _, rfl⟩ := hv
          have : k % 3 = 0 ∨ k % 3 = 1 ∨ k % 3 = 2 := by omega
          rcases this with e | e | e <;> simp [e, Value.oneCell']
        rw [← hz]
        have hst := storeAt_of (o := i * 3) (vs := z) hb2 rfl rfl (by rw [hzl, tri_length]; omega) hzo
        have e3 : over (tri d) (i * 3) z = tri (d.take i) ++ z := by
          unfold over
          rw [ed, List.take_left' (by rw [tri_length, List.length_take]; omega)]
          rw [List.drop_eq_nil_of_le (by rw [List.length_append, tri_length, tri_length, List.length_take, List.length_drop]; omega), List.append_nil]
        rw [e3] at hst
        have hil3 : (i : Int) ≤ xs.length := by omega
        have fin := h _ z (hS2.trans same_set) (by rw [← htk]; exact List.getElem?_set_self (List.getElem?_eq_some_iff.1 hb2).1)
        rw [hlen] at fin
        have hi0 : ¬ (i = 0 ∧ False) := fun h => h.2
        simp (maxSteps := 1000000) [go_sem, hst, sliceV, boundV, lenV, hil, hil', hn0, hn1]
        exact fin

end Go.Proofs.Ytakkmkinfeddeaa
end

section
/- Regions whose order is open, with operations that hang on nothing (a new cell, an empty list): at each effect ahead of such a one, both ways are shown. It holds for every program. -/
set_option linter.all false
namespace Go.Ab
open Go.RowKit (Below)

def pairOKF (ops : Array Oper) (fs : List Nat) (ms : List Nat) (x y : Nat × Bool) : Bool :=
  match ops[x.1]?, ops[y.1]? with
  | some p, some q =>
    let d := (ms.getD y.1 0).testBit x.1
    !directTo p y.1 && x.1 != y.1 &&
    (match isR p.op with
     | true => (d || indep ops p q) && (isR q.op || y.2 || !readsH p.op || d)
     | false => d || (fs.contains y.1 && y.2 && !isR q.op))
  | _, _ => false
def pairsOKF (ops : Array Oper) (fs : List Nat) (ms : List Nat) : List (Nat × Bool) → Bool
  | [] => true
  | x :: l => l.all (pairOKF ops fs ms x) && pairsOKF ops fs ms l
def drawOKF (ops : Array Oper) (fs : List Nat) (canon : List (Nat × Bool)) : Bool :=
  let ms := masksGo ops.toList []
  pairsOKF ops fs ms canon && edgesOK ops && decide (canon.length = ops.size) && canon.all (fun x => decide (x.1 < ops.size)) && (List.range ops.size).all (fun i => (canon.map (·.1)).contains i)

section
variable {P : Program} {N : Nat} {ops : Array Oper} {K : Fr → Heap → Prop} {fs : List Nat}

/-- With both ways at each effect. -/
def vF (P : Program) (N : Nat) (ops : Array Oper) (fs : List Nat) (K : Fr → Heap → Prop) : Nat → List (Nat × Bool) → Fr → Heap → Prop
  | _, [], fr, H => K fr H
  | 0, _ :: _, _, _ => False
  | n + 1, (i, fl) :: l, fr, H => match ops[i]? with
    | none => False
    | some o => match isR o.op with
      | true => vstep P N ops o (vF P N ops fs K n l) fr H
      | false => vstep P N ops o (eK fl H (vF P N ops fs K n l)) fr H ∧
          ∀ f, f ∈ fs → f ∈ l.map (·.1) → ∃ o', ops[f]? = some o' ∧ isR o'.op = false ∧ vstep P N ops o' (eK true H (vF P N ops fs K n ((i, fl) :: l.filter fun y => y.1 != f))) fr H

theorem vstep_closed {o : Oper} {T : Fr → Heap → Prop} (hT : Closed T) {f g : Fr} {H : Heap} (hfg : feq f g) (h : vstep P N ops o T f H) : vstep P N ops o T g H := by
  cases hR : isR o.op with
  | true =>
    obtain ⟨v, h1, h2⟩ := vstep_R hR hT h
    exact h2 g H _ hT (agreeG.of_feq hfg) (fun _ => List.prefix_refl _) (hT _ _ _ (hfg.put _ _) h1)
  | false =>
    refine vstep_weak (vstep_E hT h (agreeG.of_feq hfg)) ?_
    rintro f' h' ⟨v, h1, h2⟩
    exact hT _ _ _ ((hfg.put _ _).trans h1) h2
theorem eK_closed {fl : Bool} {H : Heap} {T : Fr → Heap → Prop} (hT : Closed T) : Closed (eK fl H T) := by
  intro f g h' hfg hk
  cases fl with
  | true => exact ⟨hk.1, hT _ _ _ hfg hk.2⟩
  | false => exact hT _ _ _ hfg hk
theorem vF_closed (hK : Closed K) : ∀ n l, Closed (vF P N ops fs K n l)
  | 0, [] => hK
  | n + 1, [] => hK
  | 0, _ :: _ => fun _ _ _ _ h => h
  | n + 1, (i, fl) :: l => by
    intro f g H hfg h
    simp only [vF] at h ⊢
    split at h
    · exact h.elim
    · rename_i o ho
      cases hR : isR o.op with
      | true => simp only [hR] at h ⊢; exact vstep_closed (vF_closed hK n l) hfg h
      | false =>
        simp only [hR] at h ⊢
        refine ⟨vstep_closed (eK_closed (vF_closed hK n l)) hfg h.1, fun f hf hm => ?_⟩
        obtain ⟨o', h1, h2, h3⟩ := h.2 f hf hm
        exact ⟨o', h1, h2, vstep_closed (eK_closed (vF_closed hK n _)) hfg h3⟩

/-- Reads one after the other. -/
def seqR (P : Program) (N : Nat) (ops : Array Oper) (T : Fr → Heap → Prop) : List (Nat × Bool) → Fr → Heap → Prop
  | [], fr, H => T fr H
  | (j, _) :: l, fr, H => match ops[j]? with
    | none => False
    | some p => vstep P N ops p (seqR P N ops T l) fr H
theorem seqR_closed {T : Fr → Heap → Prop} (hT : Closed T) : ∀ l, Closed (seqR P N ops T l)
  | [] => hT
  | (j, fj) :: l => by
    intro f g H hfg h
    simp only [seqR] at h ⊢
    split at h
    · exact h.elim
    · exact vstep_closed (seqR_closed hT l) hfg h
theorem vF_seqR {n : Nat} {rest : List (Nat × Bool)} : ∀ (l1 : List (Nat × Bool)) (fr : Fr) (H : Heap), (∀ x ∈ l1, ∃ p, ops[x.1]? = some p ∧ isR p.op = true) →
    (vF P N ops fs K (l1.length + n) (l1 ++ rest) fr H ↔ seqR P N ops (vF P N ops fs K n rest) l1 fr H)
  | [], fr, H, _ => by simp [seqR]
  | (j, fj) :: l1, fr, H, hl => by
    obtain ⟨p, hp, hR⟩ := hl (j, fj) (by simp)
    have ih := fun fr H => vF_seqR (n := n) (rest := rest) l1 fr H fun x hx => hl x (by simp [hx])
    rw [show ((j, fj) :: l1).length + n = (l1.length + n) + 1 by simp; omega]
    simp only [List.cons_append, vF, seqR, hp, hR]
    exact ⟨fun h => vstep_weak h fun f h => (ih f h).1, fun h => vstep_weak h fun f h => (ih f h).2⟩

theorem front_gen {o : Oper} {fl : Bool} {T T' : Fr → Heap → Prop} (hT : Closed T) (hT' : Closed T') (hstep : ∀ fr H, T fr H → vstep P N ops o (fun f h => rel o fl H h ∧ T' f h) fr H) : ∀ (l1 : List (Nat × Bool)) (fr : Fr) (H : Heap),
    (∀ x ∈ l1, ∃ p, ops[x.1]? = some p ∧ isR p.op = true ∧ indep ops p o = true ∧ (readsH p.op = true → isR o.op = true ∨ fl = true)) →
    seqR P N ops T l1 fr H → vstep P N ops o (fun f h => rel o fl H h ∧ seqR P N ops T' l1 f h) fr H
  | [], fr, H, _, h => hstep fr H h
  | (j, fj) :: l1, fr, H, hl, h => by
    obtain ⟨p, hp, hR, hin, hrd⟩ := hl (j, fj) (by simp)
    simp only [seqR, hp] at h ⊢
    have hc1 := seqR_closed (P := P) (N := N) (ops := ops) hT l1
    have hc2 := seqR_closed (P := P) (N := N) (ops := ops) hT' l1
    obtain ⟨v, h1, h2⟩ := vstep_R hR hc1 h
    have ih := front_gen hT hT' hstep l1 (fr.put p.dst v) H (fun x hx => hl x (by simp [hx])) h1
    obtain ⟨i1, i2, i3⟩ := indep_spec hin
    have hcK : Closed (fun f h => rel o fl H h ∧ seqR P N ops T' l1 f h) := fun f g h hfg hk => ⟨hk.1, hc2 _ _ _ hfg hk.2⟩
    have hag : agreeG ops o (fr.put p.dst v) fr := agreeG.symm (agreeG.put i1)
    refine vstep_weak (vstep_E hcK ih hag) ?_
    rintro f h' ⟨u, hf, hrel, hv⟩
    refine ⟨hrel, ?_⟩
    have hvE : vstep P N ops p (seqR P N ops T' l1) (fr.put o.dst u) h' := by
      refine h2 (fr.put o.dst u) h' _ hc2 (agreeG.put i2) (fun hr => hrel (hrd hr)) ?_
      exact hc2 _ _ _ (put_comm fr i3 v u) hv
    exact vstep_closed hc2 hf hvE

theorem eK_rel {o : Oper} {fl : Bool} {T : Fr → Heap → Prop} {fr : Fr} {H : Heap} (hR : isR o.op = false) (h : vstep P N ops o (eK fl H T) fr H) : vstep P N ops o (fun f h => rel o fl H h ∧ T f h) fr H := by
  refine vstep_weak h ?_
  intro f h' hk
  cases fl with
  | true => exact ⟨fun _ => hk.1, hk.2⟩
  | false => exact ⟨fun e => by simp [hR] at e, hk⟩

/-- What is behind reads only comes first. -/
theorem vF_front (hK : Closed K) {n i : Nat} {fl : Bool} {l1 l2 : List (Nat × Bool)} {o : Oper} (ho : ops[i]? = some o) {fr : Fr} {H : Heap}
    (hl1 : ∀ x ∈ l1, ∃ p, ops[x.1]? = some p ∧ isR p.op = true ∧ indep ops p o = true ∧ (readsH p.op = true → isR o.op = true ∨ fl = true))
    (h : vF P N ops fs K (l1.length + (n + 1)) (l1 ++ (i, fl) :: l2) fr H) : vstep P N ops o (fun f h => rel o fl H h ∧ vF P N ops fs K (l1.length + n) (l1 ++ l2) f h) fr H := by
  have hl1' : ∀ x ∈ l1, ∃ p, ops[x.1]? = some p ∧ isR p.op = true := fun x hx => by obtain ⟨p, h1, h2, _⟩ := hl1 x hx; exact ⟨p, h1, h2⟩
  rw [vF_seqR l1 fr H hl1'] at h
  have hstep : ∀ fr H, vF P N ops fs K (n + 1) ((i, fl) :: l2) fr H → vstep P N ops o (fun f h => rel o fl H h ∧ vF P N ops fs K n l2 f h) fr H := by
    intro fr H h
    simp only [vF, ho] at h
    cases hR : isR o.op with
    | true =>
      simp only [hR] at h
      obtain ⟨v, h1, h2⟩ := vstep_R hR (vF_closed hK n l2) h
      refine h2 fr H _ ?_ (fun _ _ => rfl) (fun _ => List.prefix_refl _) ⟨fun _ => List.prefix_refl _, h1⟩
      intro f g h hfg hk
      exact ⟨hk.1, vF_closed hK n l2 _ _ _ hfg hk.2⟩
    | false => simp only [hR] at h; exact eK_rel hR h.1
  refine vstep_weak (front_gen (vF_closed hK _ _) (vF_closed hK n l2) hstep l1 fr H hl1 h) ?_
  rintro f h' ⟨h1, h2⟩
  exact ⟨h1, (vF_seqR l1 f h' hl1').2 h2⟩
/-- What hangs on nothing comes ahead of the first effect. -/
theorem vF_float (hK : Closed K) {n i f : Nat} {fl : Bool} {r1 l2 : List (Nat × Bool)} {o o' : Oper} (ho : ops[i]? = some o) (hE : isR o.op = false) (hf : ops[f]? = some o') (hff : f ∈ fs) (hfl : f ∈ l2.map (·.1)) {fr : Fr} {H : Heap}
    (hl1 : ∀ x ∈ r1, ∃ p, ops[x.1]? = some p ∧ isR p.op = true ∧ indep ops p o' = true)
    (h : vF P N ops fs K (r1.length + (n + 1)) (r1 ++ (i, fl) :: l2) fr H) : vstep P N ops o' (fun f' h => rel o' true H h ∧ vF P N ops fs K (r1.length + n) (r1 ++ (i, fl) :: l2.filter fun y => y.1 != f) f' h) fr H := by
  have hl1' : ∀ x ∈ r1, ∃ p, ops[x.1]? = some p ∧ isR p.op = true := fun x hx => by obtain ⟨p, h1, h2, _⟩ := hl1 x hx; exact ⟨p, h1, h2⟩
  rw [vF_seqR r1 fr H hl1'] at h
  have hstep : ∀ fr H, vF P N ops fs K (n + 1) ((i, fl) :: l2) fr H → vstep P N ops o' (fun f' h => rel o' true H h ∧ vF P N ops fs K n ((i, fl) :: l2.filter fun y => y.1 != f) f' h) fr H := by
    intro fr H h
    simp only [vF, ho, hE] at h
    obtain ⟨o2, h1, h2, h3⟩ := h.2 f hff hfl
    rw [hf] at h1; cases h1
    exact eK_rel h2 h3
  refine vstep_weak (front_gen (vF_closed hK _ _) (vF_closed hK n _) hstep r1 fr H (fun x hx => by obtain ⟨p, h1, h2, h3⟩ := hl1 x hx; exact ⟨p, h1, h2, h3, fun _ => .inr rfl⟩) h) ?_
  rintro f h' ⟨h1, h2⟩
  exact ⟨h1, (vF_seqR r1 f h' hl1').2 h2⟩

theorem pairsOKF_spec {ms : List Nat} : ∀ {l1 : List (Nat × Bool)} {y : Nat × Bool} {l2 : List (Nat × Bool)}, pairsOKF ops fs ms (l1 ++ y :: l2) = true → (∀ x ∈ l1, pairOKF ops fs ms x y = true) ∧ (∀ z ∈ l2, pairOKF ops fs ms y z = true) ∧ pairsOKF ops fs ms (l1 ++ l2) = true
  | [], y, l2, h => by
    simp only [List.nil_append, pairsOKF, Bool.and_eq_true, List.all_eq_true] at h
    exact ⟨by simp, h.1, h.2⟩
  | x :: l1, y, l2, h => by
    simp only [List.cons_append, pairsOKF, Bool.and_eq_true, List.all_eq_true] at h ⊢
    obtain ⟨h1, h2⟩ := h
    obtain ⟨h3, h4, h5⟩ := pairsOKF_spec h2
    refine ⟨fun z hz => ?_, h4, fun z hz => h1 z ?_, h5⟩
    · rcases List.mem_cons.1 hz with rfl | hz
      · exact h1 y (by simp)
      · exact h3 z hz
    · rcases List.mem_append.1 hz with hz | hz
      · simp [hz]
      · simp [hz]

/-- The first effect of a list. -/
theorem first_effect : ∀ (l : List (Nat × Bool)), (∀ x ∈ l, ∃ p, ops[x.1]? = some p) → (∀ x ∈ l, ∃ p, ops[x.1]? = some p ∧ isR p.op = true) ∨
    ∃ r1 e o r2, l = r1 ++ e :: r2 ∧ ops[e.1]? = some o ∧ isR o.op = false ∧ ∀ x ∈ r1, ∃ p, ops[x.1]? = some p ∧ isR p.op = true
  | [], _ => .inl (by simp)
  | x :: l, h => by
    obtain ⟨p, hp⟩ := h x (by simp)
    cases hR : isR p.op with
    | false => exact .inr ⟨[], x, p, l, rfl, hp, hR, by simp⟩
    | true =>
      rcases first_effect l fun y hy => h y (by simp [hy]) with h1 | ⟨r1, e, o, r2, rfl, h2, h3, h4⟩
      · left
        intro y hy
        rcases List.mem_cons.1 hy with rfl | hy
        · exact ⟨p, hp, hR⟩
        · exact h1 y hy
      · refine .inr ⟨x :: r1, e, o, r2, rfl, h2, h3, fun y hy => ?_⟩
        rcases List.mem_cons.1 hy with rfl | hy
        · exact ⟨p, hp, hR⟩
        · exact h4 y hy

theorem drawF_any {B : Nat} {w0 : World} {Q : Exit → Act → World → Prop} (hK : Closed K) (hedge : edgesOK ops = true) : ∀ (n : Nat) (listed : Array Bool) (l : List (Nat × Bool)) (fr : Fr) (H : Heap) (ρ : Rho) (w : World) (a : Act),
    listed.size = ops.size → l.length = n → pairsOKF ops fs (masksGo ops.toList []) l = true → (∀ x ∈ l, x.1 < ops.size ∧ listed.getD x.1 true = false) → (∀ i, i < ops.size → listed.getD i true = false → ∃ x ∈ l, x.1 = i) →
    (∀ (j : Nat) (o : Oper), ops[j]? = some o → listed.getD j false = true → ∀ e ∈ o.after.toList, Region.binds .any e = true → listed.getD e.on false = true) →
    vF P N ops fs K n l fr H → R B w0 ρ H w → FR N ρ fr a →
    (∀ (ρ' : Rho) (fr' : Fr) (H' : Heap) (a' : Act) (w' : World), ρ <+: ρ' → K fr' H' → R B w0 ρ' H' w' → FR N ρ' fr' a' → Q .normal a' w') → wpAny P .any ops Q n listed a w := by
  intro n
  have getD2 : ∀ (listed : Array Bool) (i : Nat), listed.size = ops.size → i < ops.size → listed.getD i true = listed.getD i false := by
    intro listed i h1 h2
    simp [Array.getD_eq_getD_getElem?, h1, h2]
  induction n with
  | zero =>
    intro listed l fr H ρ w a hsz hl hp hin hall hcl hv hR hF hq
    have : l = [] := List.eq_nil_of_length_eq_zero hl
    subst this
    refine ⟨?_, hq ρ fr H a w (List.prefix_refl _) hv hR hF⟩
    rw [List.eq_nil_iff_forall_not_mem]
    intro i hi
    simp only [Region.ready, List.mem_filter, List.mem_range, Bool.and_eq_true, Bool.not_eq_true'] at hi
    obtain ⟨x, hx, _⟩ := hall i hi.1 hi.2.1
    simp at hx
  | succ n ih =>
    intro listed l fr H ρ w a hsz hl hp hin hall hcl hv hR hF hq
    refine ⟨?_, ?_⟩
    · intro hnil
      exfalso
      match l, hl with
      | (i, fl) :: l, hl =>
        obtain ⟨h1, h2⟩ := hin (i, fl) (by simp)
        have hi : i ∈ Region.ready .any ops listed := by
          simp only [Region.ready, List.mem_filter, List.mem_range, Bool.and_eq_true, Bool.not_eq_true']
          refine ⟨h1, h2, ?_⟩
          rw [Array.getElem?_eq_getElem h1]
          simp only [Option.map_some, Option.getD_some, Array.all_eq_true']
          intro e he
          rw [Bool.or_eq_true, Bool.not_eq_true']
          by_cases hb : Region.binds .any e = true
          · right
            have hedge' := List.all_eq_true.1 hedge i (by simpa using h1)
            simp only [Array.getElem?_eq_getElem h1, List.all_eq_true] at hedge'
            have he' := hedge' e (by simpa using he)
            simp only [hb, Bool.not_true, Bool.false_or, Bool.and_eq_true, decide_eq_true_eq, bne_iff_ne, ne_eq] at he'
            rw [← getD2 listed e.on hsz he'.1]
            cases hg : listed.getD e.on true with
            | true => rfl
            | false =>
              obtain ⟨x, hx, hxe⟩ := hall e.on he'.1 hg
              rcases List.mem_cons.1 hx with rfl | hx
              · exact absurd hxe.symm he'.2
              · have hpo := (pairsOKF_spec (l1 := []) hp).2.1 x hx
                have hx1 := (hin x (by simp [hx])).1
                simp only [pairOKF, Array.getElem?_eq_getElem h1, Array.getElem?_eq_getElem hx1, Bool.and_eq_true, Bool.not_eq_true'] at hpo
                have hd := hpo.1.1
                simp only [directTo, List.any_eq_false, Bool.and_eq_true, beq_iff_eq, not_and] at hd
                exact absurd hxe.symm (hd e (by simpa using he) hb)
          · left; simpa using hb
        rw [hnil] at hi
        simp at hi
    · intro i hi
      simp only [Region.ready, List.mem_filter, List.mem_range, Bool.and_eq_true, Bool.not_eq_true'] at hi
      obtain ⟨hilt, hnl, hrdy⟩ := hi
      rw [Array.getElem?_eq_getElem hilt] at hrdy
      simp only [Option.map_some, Option.getD_some, Array.all_eq_true'] at hrdy
      have ho : ops[i]? = some ops[i] := Array.getElem?_eq_getElem hilt
      obtain ⟨x, hx, hxi⟩ := hall i hilt hnl
      obtain ⟨l1, l2, rfl⟩ := List.append_of_mem hx
      obtain ⟨i', fl⟩ := x
      simp only at hxi
      subst hxi
      obtain ⟨hp1, hp2, hp3⟩ := pairsOKF_spec hp
      have hpre : ∀ e ∈ (ops[i']).after.toList, Region.binds .any e = true → listed.getD e.on false = true := by
        intro e he hb
        have := hrdy e (by simpa using he)
        simpa [hb] using this
      have hdep : ∀ y ∈ l1, ¬ ((masksGo ops.toList []).getD i' 0).testBit y.1 = true := by
        intro y hy hb
        have := masks_sound (ops := ops) (fun j => listed.getD j false = true) hcl ops.toList [] (fun j _ => by simp) (fun j o p hj => by simp at hj) i' _ y.1 ho hb hpre
        obtain ⟨hy1, hy2⟩ := hin y (by simp [hy])
        rw [getD2 listed y.1 hsz hy1] at hy2
        rw [hy2] at this; cases this
      have hR1 : ∀ y ∈ l1, ∀ p, ops[y.1]? = some p → isR p.op = true → indep ops p ops[i'] = true ∧ (readsH p.op = true → isR (ops[i']).op = true ∨ fl = true) := by
        intro y hy p hp' hRp
        have hy1 := (hin y (by simp [hy])).1
        have hpo := hp1 y hy
        have hd := hdep y hy
        simp only [pairOKF, hp', ho, Bool.and_eq_true] at hpo
        have hpo2 := hpo.2
        simp only [Bool.not_eq_true] at hd
        simp only [hRp, hd, Bool.false_or, Bool.or_false, Bool.and_eq_true, Bool.or_eq_true, Bool.not_eq_true'] at hpo2
        refine ⟨hpo2.1, fun hr => ?_⟩
        rcases hpo2.2 with (h | h) | h
        · exact .inl h
        · exact .inr h
        · rw [hr] at h; cases h
      have hE1 : ∀ y ∈ l1, ∀ p, ops[y.1]? = some p → isR p.op = false → i' ∈ fs ∧ fl = true ∧ isR (ops[i']).op = false := by
        intro y hy p hp' hRp
        have hpo := hp1 y hy
        have hd := hdep y hy
        simp only [pairOKF, hp', ho, Bool.and_eq_true] at hpo
        have hpo2 := hpo.2
        simp only [Bool.not_eq_true] at hd
        simp only [hRp, hd, Bool.false_or, Bool.and_eq_true, Bool.not_eq_true', List.contains_iff_mem] at hpo2
        exact ⟨hpo2.1.1, hpo2.1.2, hpo2.2⟩
      have hnd : ∀ y ∈ l1 ++ l2, y.1 ≠ i' := by
        intro y hy e
        rcases List.mem_append.1 hy with hy | hy
        · have hpo := hp1 y hy
          have hy1 := (hin y (by simp [hy])).1
          simp [pairOKF, Array.getElem?_eq_getElem hy1, ho, e] at hpo
        · have hpo := hp2 y hy
          have hy1 := (hin y (by simp [hy])).1
          simp [pairOKF, Array.getElem?_eq_getElem hy1, ho, e] at hpo
      have hstep : vstep P N ops ops[i'] (fun f h => rel ops[i'] fl H h ∧ vF P N ops fs K n (l1 ++ l2) f h) fr H := by
        simp only [List.length_append, List.length_cons] at hl
        rcases first_effect (ops := ops) l1 (fun x hx => ⟨_, Array.getElem?_eq_getElem (hin x (by simp [hx])).1⟩) with hall1 | ⟨r1, e, oe, r2, rfl, he1, he2, he3⟩
        · rw [show n = l1.length + l2.length by omega]
          rw [show n + 1 = l1.length + (l2.length + 1) by omega] at hv
          exact vF_front hK ho (fun x hx => by obtain ⟨p, h1, h2⟩ := hall1 x hx; obtain ⟨h3, h4⟩ := hR1 x hx p h1 h2; exact ⟨p, h1, h2, h3, h4⟩) hv
        · obtain ⟨hif, hfl, hEi⟩ := hE1 e (by simp) oe he1 he2
          subst hfl
          simp only [List.length_append, List.length_cons] at hl
          rw [show n + 1 = r1.length + ((r2.length + 1 + l2.length) + 1) by omega, List.append_assoc, List.cons_append] at hv
          have hfilt : (r2 ++ (i', true) :: l2).filter (fun y => y.1 != i') = r2 ++ l2 := by
            rw [List.filter_append, List.filter_cons]
            simp only [bne_self_eq_false, Bool.false_eq_true, if_false]
            rw [List.filter_eq_self.2, List.filter_eq_self.2]
            · intro y hy; simpa using hnd y (by simp [hy])
            · intro y hy; simpa using hnd y (by simp [hy])
          have := vF_float (f := i') hK he1 he2 ho hif (by simp) (fun x hx => by
            obtain ⟨p, h1, h2⟩ := he3 x hx
            exact ⟨p, h1, h2, (hR1 x (by simp [hx]) p h1 h2).1⟩) hv
          rw [hfilt] at this
          rw [show n = r1.length + (r2.length + 1 + l2.length) by omega, List.append_assoc, List.cons_append]
          exact this
      unfold wpOp
      rw [ho]
      refine vstep_sound hstep hR hF Q ?_
      rintro ρ' fr' H' a' w' hpre' ⟨_, hv'⟩ hR' hF'
      refine ih (listed.setIfInBounds i' true) (l1 ++ l2) fr' H' ρ' w' a' (by simpa using hsz) (by simp at hl ⊢; omega) hp3 ?_ ?_ ?_ hv' hR' hF' (fun ρ'' f'' H'' a'' w'' h1 => hq ρ'' f'' H'' a'' w'' (hpre'.trans h1))
      · intro y hy
        have hne := hnd y hy
        obtain ⟨h1, h2⟩ := hin y (by rcases List.mem_append.1 hy with hy | hy <;> simp [hy])
        exact ⟨h1, by rw [getD_set_ne _ (fun e => hne e.symm)]; exact h2⟩
      · intro j hj hnj
        by_cases e : i' = j
        · subst e
          exfalso
          have : (listed.setIfInBounds i' true).getD i' true = true := by simp [Array.getD_eq_getD_getElem?]
          rw [this] at hnj; cases hnj
        · rw [getD_set_ne _ e] at hnj
          obtain ⟨y, hy, rfl⟩ := hall j hj hnj
          refine ⟨y, ?_, rfl⟩
          rcases List.mem_append.1 hy with hy | hy
          · simp [hy]
          · rcases List.mem_cons.1 hy with rfl | hy
            · exact absurd rfl e
            · simp [hy]
      · intro j o hj hlj e he hb
        by_cases e' : i' = j
        · subst e'
          rw [ho] at hj; cases hj
          exact getD_set_true (hpre e he hb)
        · rw [getD_set_ne _ e'] at hlj
          exact getD_set_true (hcl j o hj hlj e he hb)

/-- Both ways, written out. -/
inductive Tree
  | nil
  | one (i : Nat) (fl : Bool) (t : Tree)
  | two (i : Nat) (fl : Bool) (t : Tree) (f : Nat) (t' : Tree)

def andA (a b : Prop) : Prop := a ∧ b
theorem andA_intro {a b : Prop} (ha : a) (hb : b) : andA a b := ⟨ha, hb⟩
/-- The second way, not yet walked. -/
def otherWay (a : Prop) : Prop := a
theorem otherWay_intro {a : Prop} (h : a) : otherWay a := h
def vT (P : Program) (N : Nat) (ops : Array Oper) (K : Fr → Heap → Prop) : Tree → Fr → Heap → Prop
  | .nil, fr, H => K fr H
  | .one i fl t, fr, H => match ops[i]? with
    | none => False
    | some o => match isR o.op with
      | true => vstep P N ops o (vT P N ops K t) fr H
      | false => vstep P N ops o (eK fl H (vT P N ops K t)) fr H
  | .two i fl t f t', fr, H => match ops[i]?, ops[f]? with
    | some o, some o' => vstep P N ops o (eK fl H (vT P N ops K t)) fr H ∧ vstep P N ops o' (eK true H (vT P N ops K t')) fr H
    | _, _ => False
def treeOK (ops : Array Oper) (fs : List Nat) : Tree → List (Nat × Bool) → Bool
  | .nil, l => l.isEmpty
  | .one i fl t, (j, fl') :: l => i == j && fl == fl' && ((match ops[i]? with | some o => isR o.op | none => false) || fs.all fun f => !(l.map (·.1)).contains f) && treeOK ops fs t l
  | .two i fl t f t', (j, fl') :: l => i == j && fl == fl' && (match ops[i]?, ops[f]? with | some o, some o' => !isR o.op && !isR o'.op | _, _ => false) && (fs.all fun g => g == f || !(l.map (·.1)).contains g) && treeOK ops fs t l && treeOK ops fs t' ((j, fl') :: l.filter fun y => y.1 != f)
  | _, [] => false
theorem vT_vF : ∀ (t : Tree) (n : Nat) (l : List (Nat × Bool)) (fr : Fr) (H : Heap), l.length ≤ n → (∀ x y, x ∈ l → y ∈ l → x.1 = y.1 → x = y) → treeOK ops fs t l = true → vT P N ops K t fr H → vF P N ops fs K n l fr H := by
  intro t
  induction t with
  | nil =>
    intro n l fr H hn _ hok h
    cases l with
    | nil => cases n <;> exact h
    | cons x l => simp [treeOK] at hok
  | one i fl t ih =>
    intro n l fr H hn hu hok h
    cases l with
    | nil => simp [treeOK] at hok
    | cons x l =>
      obtain ⟨j, fl'⟩ := x
      simp only [treeOK, Bool.and_eq_true, beq_iff_eq] at hok
      obtain ⟨⟨⟨rfl, rfl⟩, hfl⟩, hok⟩ := hok
      cases n with
      | zero => simp at hn
      | succ n =>
        simp only [List.length_cons] at hn
        have hu' : ∀ x y, x ∈ l → y ∈ l → x.1 = y.1 → x = y := fun x y hx hy => hu x y (by simp [hx]) (by simp [hy])
        simp only [vT] at h
        simp only [vF]
        cases ho : ops[i]? with
        | none => simp [ho] at h
        | some o =>
          simp only [ho] at h hfl ⊢
          cases hR : isR o.op with
          | true => simp only [hR] at h ⊢; exact vstep_weak h fun f h => ih n l f h (by omega) hu' hok
          | false =>
            simp only [hR, Bool.false_or, List.all_eq_true] at h hfl ⊢
            refine ⟨vstep_weak h fun f h' hk => ?_, fun f hf hm => ?_⟩
            · cases fl with
              | true => exact ⟨hk.1, ih n l f h' (by omega) hu' hok hk.2⟩
              | false => exact ih n l f h' (by omega) hu' hok hk
            · have := hfl f hf
              simp only [Bool.not_eq_true', List.contains_eq_mem, decide_eq_false_iff_not] at this
              exact absurd hm this
  | two i fl t f t' ih ih' =>
    intro n l fr H hn hu hok h
    cases l with
    | nil => simp [treeOK] at hok
    | cons x l =>
      obtain ⟨j, fl'⟩ := x
      simp only [treeOK, Bool.and_eq_true, beq_iff_eq] at hok
      obtain ⟨⟨⟨⟨⟨rfl, rfl⟩, hE⟩, hfl⟩, hok⟩, hok'⟩ := hok
      cases n with
      | zero => simp at hn
      | succ n =>
        simp only [List.length_cons] at hn
        have hu' : ∀ x y, x ∈ l → y ∈ l → x.1 = y.1 → x = y := fun x y hx hy => hu x y (by simp [hx]) (by simp [hy])
        simp only [vT] at h
        simp only [vF]
        cases ho : ops[i]? with
        | none => simp [ho] at h
        | some o =>
          cases ho' : ops[f]? with
          | none => simp [ho, ho'] at h
          | some o' =>
            simp only [ho, ho', Bool.and_eq_true, Bool.not_eq_true'] at h hE ⊢
            simp only [hE.1]
            refine ⟨vstep_weak h.1 fun g h' hk => ?_, fun g hg hm => ?_⟩
            · cases fl with
              | true => exact ⟨hk.1, ih n l g h' (by omega) hu' hok hk.2⟩
              | false => exact ih n l g h' (by omega) hu' hok hk
            · rw [List.all_eq_true] at hfl
              have hgf := hfl g hg
              simp only [Bool.or_eq_true, beq_iff_eq, Bool.not_eq_true', List.contains_eq_mem, decide_eq_false_iff_not] at hgf
              have : g = f := hgf.resolve_right (fun e => e hm)
              subst this
              refine ⟨o', ho', hE.2, vstep_weak h.2 fun q h' hk => ⟨hk.1, ih' n _ q h' ?_ ?_ hok' hk.2⟩⟩
              · obtain ⟨z, hz, hzg⟩ := List.mem_map.1 hm
                have : (l.filter fun y => y.1 != g).length < l.length := by
                  rw [List.length_filter_lt_length_iff_exists]
                  exact ⟨z, hz, by simp [hzg]⟩
                simp only [List.length_cons]; omega
              · intro x y hx hy
                refine hu x y ?_ ?_
                · rcases List.mem_cons.1 hx with rfl | hx
                  · simp
                  · exact List.mem_cons_of_mem _ (List.mem_filter.1 hx).1
                · rcases List.mem_cons.1 hy with rfl | hy
                  · simp
                  · exact List.mem_cons_of_mem _ (List.mem_filter.1 hy).1

theorem AWp.drawF {id : Nat} {fr : Fr} {H : Heap} {Q : Exit → Fr → Heap → Prop} (hm : P.follows .mixedOrders = true) (fs : List Nat) (canon : List (Nat × Bool)) (t : Tree) (hok : (drawOKF ops fs canon && treeOK ops fs t canon) = true) (h : vT P N ops (Q .normal) t fr H) : AWp P N (.region id ops true) Q fr H := by
  intro B w0 ρ w a hR hF
  simp only [drawOKF, Bool.and_eq_true, decide_eq_true_eq, List.all_eq_true, List.mem_range, List.contains_iff_mem, List.mem_map] at hok
  obtain ⟨⟨⟨⟨⟨h1, h2⟩, h3⟩, h4⟩, h5⟩, h6⟩ := hok
  refine wp_region_any hm ?_
  let K : Fr → Heap → Prop := fun f h => ∃ g, feq g f ∧ Q .normal g h
  have hK : Closed K := fun f g h hfg ⟨k, hk, hq⟩ => ⟨k, hk.trans hfg, hq⟩
  have hu : ∀ x y, x ∈ canon → y ∈ canon → x.1 = y.1 → x = y := by
    intro x y hx hy e
    obtain ⟨l1, l2, rfl⟩ := List.append_of_mem hx
    obtain ⟨hp1, hp2, _⟩ := pairsOKF_spec h1
    rcases List.mem_append.1 hy with hy | hy
    · have := hp1 y hy
      unfold pairOKF at this
      split at this
      · simp [e] at this
      · cases this
    · rcases List.mem_cons.1 hy with rfl | hy
      · rfl
      · have := hp2 y hy
        unfold pairOKF at this
        split at this
        · simp [e] at this
        · cases this
  have hv : vF P N ops fs K ops.size canon fr H := by
    refine vT_vF t ops.size canon fr H (by omega) hu h6 ?_
    have weak : ∀ (t : Tree) (fr : Fr) (H : Heap), vT P N ops (Q .normal) t fr H → vT P N ops K t fr H := by
      intro t
      induction t with
      | nil => exact fun fr H h => ⟨fr, feq.rfl' _, h⟩
      | one i fl t ih =>
        intro fr H h
        simp only [vT] at h ⊢
        split at h
        · exact h
        · rename_i o ho
          cases hR : isR o.op with
          | true => simp only [hR] at h ⊢; exact vstep_weak h ih
          | false =>
            simp only [hR] at h ⊢
            refine vstep_weak h ?_
            intro f h' hk
            cases fl with
            | true => exact ⟨hk.1, ih _ _ hk.2⟩
            | false => exact ih _ _ hk
      | two i fl t f t' ih ih' =>
        intro fr H h
        simp only [vT] at h ⊢
        split at h
        · rename_i o o' ho ho'
          refine ⟨vstep_weak h.1 ?_, vstep_weak h.2 fun f h' hk => ⟨hk.1, ih' _ _ hk.2⟩⟩
          intro f h' hk
          cases fl with
          | true => exact ⟨hk.1, ih _ _ hk.2⟩
          | false => exact ih _ _ hk
        · exact h
    exact weak t fr H h
  have hgt : ∀ i, i < ops.size → (Array.replicate ops.size false).getD i true = false := by
    intro i hi
    simp [Array.getD_eq_getD_getElem?, hi]
  refine drawF_any (B := B) (w0 := w0) hK h2 ops.size (Array.replicate ops.size false) canon fr H ρ w.drew a (by simp) h3 h1 ?_ ?_ ?_ hv hR.drew hF ?_
  · intro x hx
    exact ⟨h4 x hx, hgt x.1 (h4 x hx)⟩
  · intro i hi _
    obtain ⟨x, hx, rfl⟩ := h5 i hi
    exact ⟨x, hx, rfl⟩
  · intro j o hj hl
    rw [Array.getD_eq_getD_getElem?, Array.getElem?_replicate] at hl
    split at hl <;> simp at hl
  · rintro ρ' fr' H' a' w' hp ⟨g, hg, hq⟩ hR' hF'
    exact ⟨ρ', g, H', hp, hR', hF'.feq hg.symm, hq⟩

/-! The words of such a tree, for simp. -/

def vTK (P : Program) (N : Nat) (ops : Array Oper) (K : Fr → Heap → Prop) (t : Tree) (fr : Fr) (H : Heap) : Prop := vT P N ops K t fr H
def eTK (P : Program) (N : Nat) (ops : Array Oper) (K : Fr → Heap → Prop) (t : Tree) (fl : Bool) (H : Heap) (fr : Fr) (H' : Heap) : Prop :=
  match fl with
  | true => andK (H <+: H') (vT P N ops K t fr H')
  | false => vT P N ops K t fr H'
def vTo (P : Program) (N : Nat) (ops : Array Oper) (K : Fr → Heap → Prop) (t : Tree) (fl : Bool) (fr : Fr) (H : Heap) (o : Oper) : Prop :=
  match isR o.op with
  | true => vstep P N ops o (vTK P N ops K t) fr H
  | false => vstep P N ops o (eTK P N ops K t fl H) fr H
def vTe (P : Program) (N : Nat) (ops : Array Oper) (K : Fr → Heap → Prop) (t : Tree) (fl : Bool) (fr : Fr) (H : Heap) (o : Oper) : Prop := vstep P N ops o (eTK P N ops K t fl H) fr H

theorem vT_nil (K : Fr → Heap → Prop) (fr : Fr) (H : Heap) : vT P N ops K .nil fr H = K fr H := rfl
theorem eTK_eq (K : Fr → Heap → Prop) (t : Tree) (fl : Bool) (H : Heap) : eK fl H (vT P N ops K t) = eTK P N ops K t fl H := by
  funext f h
  cases fl <;> rfl
theorem vT_one (K : Fr → Heap → Prop) (i : Nat) (fl : Bool) (t : Tree) (fr : Fr) (H : Heap) : vT P N ops K (.one i fl t) fr H = bindO ops[i]? (vTo P N ops K t fl fr H) := by
  simp only [vT]
  cases ops[i]? with
  | none => simp [bindO]
  | some o =>
    simp only [bindO_some, vTo]
    cases isR o.op with
    | true => rfl
    | false => simp only [eTK_eq]
theorem vT_two {i : Nat} {fl : Bool} {t : Tree} {f : Nat} {t' : Tree} {K : Fr → Heap → Prop} {fr : Fr} {H : Heap} (h1 : bindO ops[i]? (vTe P N ops K t fl fr H)) (h2 : bindO ops[f]? (vTe P N ops K t' true fr H)) : vT P N ops K (.two i fl t f t') fr H := by
  simp only [vT]
  cases ho : ops[i]? with
  | none => simp [ho, bindO] at h1
  | some o =>
    cases ho' : ops[f]? with
    | none => simp [ho', bindO] at h2
    | some o' =>
      simp only [ho, ho', bindO_some, vTe] at h1 h2 ⊢
      exact ⟨by rw [eTK_eq]; exact h1, by rw [eTK_eq]; exact h2⟩

attribute [go_sem] vTK eTK vTo vTe vT_nil vT_one

end
end Go.Ab
end

section
/- Less: the blocks of a list that are not in another one, on both sides. -/
set_option linter.all false
set_option maxRecDepth 20000
set_option maxHeartbeats 8000000
namespace Go.Proofs.Ytakkmkinfeddeaa
open Go.Ab Go.Sort

theorem blocks_lt {H : Heap} {u : Value} {bs : List Bk} (h : BlocksAt H u bs) : ∃ i o, u = lv 3 i o bs.length ∧ At H i o (tri bs) ∧ bs.length ≤ 140737488355328 ∧ (tri bs ≠ [] → i < H.length) := by
  obtain ⟨i, o, h1, h2, h3⟩ := h
  refine ⟨i, o, h1, h2, h3, fun hn => ?_⟩
  rcases h2 with e | e
  · exact absurd e hn
  · obtain ⟨blk, hb, _⟩ := cellsAt_inv e
    exact (List.getElem?_eq_some_iff.1 hb).1

theorem lessTells {H0 H : Heap} {w : Value} {y : List Bk} {bid id : Nat} (hb : Holds H0 bid [w]) (hy : BlocksAt H0 w y) (hp : H0 <+: H) (hid : H0.length ≤ id) : TellsS 183 [] [.pointer (some ⟨bid, 0, none⟩)] (memB y) id H := by
  intro H' x Post hs h
  obtain ⟨i, o, rfl, h1, h2, h3⟩ := blocks_lt hy
  have hbl : bid < H0.length := by obtain ⟨ow, hb⟩ := hb; exact (List.getElem?_eq_some_iff.1 hb).1
  have hb' : Holds H' bid [lv 3 i o y.length] := (hb.pre hp).keepS hs (by omega)
  have hy' : BlocksAt H' (lv 3 i o y.length) y := ⟨i, o, rfl, At.keepS hs (h1.pre hp) (fun hn => by have := h3 hn; omega), h2⟩
  have c1 : cellsAt H' bid 0 1 = some [lv 3 i o y.length] := hb'.cell rfl
  simp only [List.nil_append]
  refine acalls_vc (rs := [.tmp 3]) Try.func183 rfl rfl Try.ntmps183 rfl rfl ?_
  simp (maxSteps := 1000000) [go_sem, Bk.val]
  have hp2 : H' <+: H' ++ [⟨[.int .i64 x.a, .int .i64 x.b, .int .i64 x.c], true, true⟩] := List.prefix_append _ _
  have c2 := cellsAt_mono hp2 c1
  have hx2 := Holds.last H' [.int .i64 x.a, .int .i64 x.b, .int .i64 x.c]
  have c3 : cellsAt (H' ++ [⟨[.int .i64 x.a, .int .i64 x.b, .int .i64 x.c], true, true⟩]) H'.length 0 3 = some [.int .i64 x.a, .int .i64 x.b, .int .i64 x.c] := by simpa using hx2.cells (n := 3) (o := 0) (by simp)
  simp (maxSteps := 1000000) [go_sem, c2, c3]
  refine slicesContainsB_ok (b := x) (hy'.pre hp2) _ ?_
  intro H2 hp3
  simp (maxSteps := 1000000) [go_sem]
  exact h H2 (hp2.trans hp3)

theorem less_oe {H : Heap} {u w : Value} {x y : List Bk} (hu : BlocksAt H u x) (hw : BlocksAt H w y) (hl : x.length ≤ 1048576) (Post : Value → Heap → Prop)
    (h : ∀ H' v, H <+: H' → OE 3 H.length H' v (tri (lessB x y)) (lessB x y).length → Post v H') : ACalls Try.prog 138 [u, w] H Post := by
  refine ACalls.addGhost ?_
  have hpg : H <+: H ++ [⟨[], false, false⟩] := List.prefix_append _ _
  have hg : ghostAt (H ++ [⟨[], false, false⟩]) H.length = true := by simp [ghostAt]
  have hgl : (H ++ [(⟨[], false, false⟩ : Blk)]).length = H.length + 1 := by simp
  generalize H ++ [(⟨[], false, false⟩ : Blk)] = HG at *
  refine ACalls.resH ?_
  refine acalls_vc (rs := [.tmp 4]) Try.func138 rfl rfl Try.ntmps138 rfl rfl ?_
  have hwc : ∃ j q, w = lv 3 j q y.length ∧ At H j q (tri y) ∧ y.length ≤ 140737488355328 := hw
  obtain ⟨wj, wq, ew, _, _⟩ := hwc
  subst ew
  simp (maxSteps := 1000000) [go_sem]
  have hp0 : HG <+: HG ++ [⟨[lv 3 wj wq y.length], true, true⟩] := List.prefix_append _ _
  have hx0 := Holds.last HG [lv 3 wj wq y.length]
  have hl0 : (HG ++ [(⟨[lv 3 wj wq y.length], true, true⟩ : Blk)]).length = HG.length + 1 := by simp
  generalize HG ++ [(⟨[lv 3 wj wq y.length], true, true⟩ : Blk)] = H0 at *
  refine cloneB_oe (hu.pre (hpg.trans hp0)) hl _ ?_
  intro H1 v hp1 hv
  have tells : ∀ (id : Nat), H0.length ≤ id → TellsS 183 [] [.pointer (some ⟨HG.length, 0, none⟩)] (memB y) id H1 := fun id hid => lessTells hx0 (hw.pre (hpg.trans hp0)) hp1 hid
  have keepG : ∀ {H2 : Heap}, HG <+: H2 → ghostAt H2 H.length = true := by
    intro H2 hp
    obtain ⟨b, e1, e2, e3⟩ := ghostAt_inv hg
    have := Same.get (S := fun _ => False) (Same.of_prefix hp) e1 (fun h => h)
    simp [ghostAt, this, e2, e3]
  by_cases hx : x = []
  · subst hx
    have empty : ∀ (H2 : Heap), H1 <+: H2 → ∀ id, H.length ≤ id → (ghostAt H2 id = true ∨ ownAt H2 id = true) → Post (lv 3 id 0 0) H2 := by
      intro H2 hp2 id hid hgo
      exact h H2 _ (hpg.trans (hp0.trans (hp1.trans hp2))) ⟨rfl, .inr (.inr ⟨id, hid, rfl, .inl ⟨rfl, hgo⟩⟩)⟩
    simp (maxSteps := 1000000) [go_sem]
    rcases hv.2 with ⟨_, rfl⟩ | ⟨id, _, hid, rfl, hb⟩ | ⟨id, hid, rfl, hb⟩
    · refine ACalls.up (args' := [lv 3 H.length 0 0, .func (.func 183) #[] #[.pointer (some ⟨HG.length, 0, none⟩)]]) ⟨Up.nil _ _ _ _, Up.refl _ _, trivial⟩ ?_
      refine deleteFunc0_ok (fs := []) (cs := [.pointer (some ⟨HG.length, 0, none⟩)]) _ ?_
      intro H2 hp2
      simp (maxSteps := 1000000) [go_sem]
      exact ⟨_, Up.refl _ _, H2, upH.refl _, empty H2 hp2 H.length (by omega) (.inl (keepG (hp0.trans (hp1.trans hp2))))⟩
    · refine ACalls.up (args' := [lv 3 H.length 0 0, .func (.func 183) #[] #[.pointer (some ⟨HG.length, 0, none⟩)]]) ⟨Up.ex0 _ _ _ _ _ _, Up.refl _ _, trivial⟩ ?_
      refine deleteFunc0_ok (fs := []) (cs := [.pointer (some ⟨HG.length, 0, none⟩)]) _ ?_
      intro H2 hp2
      simp (maxSteps := 1000000) [go_sem]
      exact ⟨_, Up.refl _ _, H2, upH.refl _, empty H2 hp2 H.length (by omega) (.inl (keepG (hp0.trans (hp1.trans hp2))))⟩
    · refine deleteFunc0_ok (fs := []) (cs := [.pointer (some ⟨HG.length, 0, none⟩)]) _ ?_
      intro H2 hp2
      have hgo : ghostAt H1 id = true ∨ ownAt H1 id = true := by
        rcases hb with ⟨_, e⟩ | e
        · exact e
        · right; simp [ownAt, e]
      have hgo2 : ghostAt H2 id = true ∨ ownAt H2 id = true := by
        rcases hgo with e | e
        · left
          obtain ⟨b, e1, e2, e3⟩ := ghostAt_inv e
          have := Same.get (S := fun _ => False) (Same.of_prefix hp2) e1 (fun h => h)
          simp [ghostAt, this, e2, e3]
        · right
          unfold ownAt at e ⊢
          cases hb1 : H1[id]? with
          | none => simp [hb1] at e
          | some b =>
            have := Same.get (S := fun _ => False) (Same.of_prefix hp2) hb1 (fun h => h)
            simpa [this, hb1] using e
      simp (maxSteps := 1000000) [go_sem]
      exact ⟨_, Up.refl _ _, H2, upH.refl _, empty H2 hp2 id (by omega) hgo2⟩
  · have hxl : x.length ≠ 0 := by simpa using hx
    obtain ⟨id, hid, rfl, hb⟩ : ∃ id, H0.length ≤ id ∧ v = lv 3 id 0 x.length ∧ H1[id]? = some ⟨tri x, true, true⟩ := by
      rcases hv.2 with ⟨e, _⟩ | ⟨id, e, _⟩ | ⟨id, hid, e1, ⟨e, _⟩ | e⟩
      · exact absurd e hxl
      · exact absurd e hxl
      · exact absurd e hxl
      · exact ⟨id, hid, e1, e⟩
    simp (maxSteps := 1000000) [go_sem]
    refine deleteFuncB_ok (fs := []) (cs := [.pointer (some ⟨HG.length, 0, none⟩)]) hb rfl hl (tells id hid) _ ?_
    intro H2 rest hs2 hb2
    have hlt := (List.getElem?_eq_some_iff.1 hb2).1
    have hp3 : H <+: H2.set id ⟨tri (lessB x y), true, true⟩ := ((Same.of_prefix (hpg.trans (hp0.trans hp1))).trans (hs2.trans same_set)).prefix (by have := hpg.length_le; intro j hj e; omega)
    have fin := h _ (lv 3 id 0 (lessB x y).length) hp3 ⟨by rw [tri_length], .inr (.inr ⟨id, by omega, rfl, .inr (List.getElem?_set_self hlt)⟩)⟩
    simp (maxSteps := 1000000) [go_sem]
    exact ⟨_, Up.refl _ _, _, upH.cut hb2, fin⟩

theorem less_ok {H : Heap} {u w : Value} {x y : List Bk} (hu : BlocksAt H u x) (hw : BlocksAt H w y) (hl : x.length ≤ 1048576) (Post : Value → Heap → Prop)
    (h : ∀ H' v, H <+: H' → BlocksIn H.length H'.length H' v (lessB x y) → Post v H') : ACalls Try.prog 138 [u, w] H Post := by
  refine ACalls.res (less_oe hu hw hl _ fun H' v hp he => ?_)
  have hll : (lessB x y).length ≤ x.length := List.length_filter_le _ _
  obtain ⟨w, hup, hw⟩ := he.blocks (by omega)
  exact ⟨w, hup, h H' w hp hw⟩

theorem l04Less_oe {H : Heap} {u w : Value} {x y : List Bk} (hu : BlocksAt H u x) (hw : BlocksAt H w y) (hl : x.length ≤ 1048576) (Post : Value → Heap → Prop)
    (h : ∀ H' id, H <+: H' → H.length ≤ id → OL 3 H' id (tri (lessB x y)) (lessB x y).length → Post (lv 3 id 0 (lessB x y).length) H') : ACalls Try.prog 137 [u, w] H Post := by
  obtain ⟨i, o, rfl, h1, h2⟩ := hu
  refine ACalls.res ?_
  refine acalls_vc (rs := [.tmp 4]) Try.func137 rfl rfl Try.ntmps137 rfl rfl ?_
  simp (maxSteps := 1000000) [go_sem]
  have ow := hw.one
  refine AWp.loopVc (St := Nat × Nat) (fun s => [(0, lv 3 i o x.length), (1, w), (5, lv 3 s.2 0 (lessB (x.take s.1) y).length), (6, .int .i64 s.1)])
    (fun s H' => s.1 ≤ x.length ∧ Bl 3 H H' s.2 (tri (lessB (x.take s.1) y)) (lessB (x.take s.1) y).length) (fun s => x.length - s.1) (0, H.length) ?_ ?_ ?_
  · simp [upF, Fr.get, Up.refl, lessB, Up.ex0]
  · exact ⟨by simp, by simpa [lessB, tri] using Bl.nil 3 H⟩
  · rintro K ⟨s, id⟩ H' ⟨hs, hbl⟩ hK
    simp only at hs hbl
    by_cases hlt : s < x.length
    · have hw_s : IntKind.i64.wrap ((s : Int) + 1) = (s : Int) + 1 := i64w (by omega) (by omega)
      have c0 : ∀ {H2 : Heap}, H <+: H2 → cellsAt H2 i (o + s * 3) 3 = some x[s].cells := fun hp => (h1.pre hp).bk (List.getElem?_eq_getElem hlt)
      have htk := List.take_succ_eq_append_getElem hlt
      have c1 := c0 hbl.1
      generalize x[s] = b at *
      simp only [Bk.cells] at c1 c0
      have hll : (lessB (x.take s) y).length ≤ s := Nat.le_trans (List.length_filter_le _ _) (by simp; omega)
      simp (maxSteps := 1000000) [go_sem, hlt, c1]
      refine l04Member_ok (b := b) (hw.pre hbl.1) _ ?_
      intro H2 hp2
      have hbl2 := hbl.pre hp2
      have c2 := c0 (hbl.1.trans hp2)
      cases hm : memB y b with
      | true =>
        have e : lessB (x.take (s + 1)) y = lessB (x.take s) y := by rw [htk]; simp [lessB, hm]
        simp (maxSteps := 1000000) [go_sem, hw_s]
        refine hK (s + 1, id) _ _ (by simp only; omega) ?_ ⟨by simp only; omega, by simp only; rw [e]; exact hbl2⟩
        simp only [e]
        simp [upF, Fr.get, Up.refl]
      | false =>
        have e : lessB (x.take (s + 1)) y = lessB (x.take s) y ++ [b] := by rw [htk]; simp [lessB, hm]
        obtain ⟨hsrc, H4, hap, hbl4⟩ := hbl2.push (xs := [.int .i64 b.a, .int .i64 b.b, .int .i64 b.c]) (by omega) rfl
        have e2 : tri (lessB (x.take s) y) ++ [.int .i64 b.a, .int .i64 b.b, .int .i64 b.c] = tri (lessB (x.take (s + 1)) y) := by rw [e, tri_append]; rfl
        rw [e2] at hbl4
        have e3 : (lessB (x.take (s + 1)) y).length = (lessB (x.take s) y).length + 1 := by rw [e]; simp
        generalize (lessB (x.take s) y).length = n at *
        simp (maxSteps := 1000000) [go_sem, hlt, c2, hsrc, hap, hw_s]
        refine andK_intro (by omega) (hK (s + 1, H2.length + 1) _ _ (by simp only; omega) ?_ ⟨by simp only; omega, by simp only; rw [e3]; exact hbl4⟩)
        simp only [e3]
        simp [upF, Fr.get, Up.refl]
    · have : s = x.length := by omega
      subst this
      rw [List.take_length] at hbl
      simp (maxSteps := 1000000) [go_sem]
      exact ⟨_, Up.refl _ _, h H' id hbl.1 hbl.2.2 hbl.2.1⟩

theorem l04Less_ok {H : Heap} {u w : Value} {x y : List Bk} (hu : BlocksAt H u x) (hw : BlocksAt H w y) (hl : x.length ≤ 1048576) (Post : Value → Heap → Prop)
    (h : ∀ H' v, H <+: H' → BlocksIn H.length H'.length H' v (lessB x y) → Post v H') : ACalls Try.prog 137 [u, w] H Post := by
  have hll : (lessB x y).length ≤ x.length := List.length_filter_le _ _
  refine l04Less_oe hu hw hl _ fun H' id hp hid ho => h H' _ hp ⟨id, ⟨rfl, ?_, by omega⟩, fun _ => ⟨hid, ho.lt⟩⟩
  rcases ho.2 with ⟨e, _⟩ | e
  · left; exact List.eq_nil_of_length_eq_zero e
  · right; exact e

end Go.Proofs.Ytakkmkinfeddeaa
end

section
/- DifferenceTrade on both sides. -/
set_option linter.all false
set_option maxRecDepth 20000
set_option maxHeartbeats 8000000
namespace Go.Proofs.Ytakkmkinfeddeaa
open Go.Ab Go.Sort

noncomputable def rDiff (p : Int) (x : List Bk) (q : Int) (y : List Bk) : (Int × List Bk × List Bk) × Int :=
  if sysB p x && sysB q y then (if p = q ∧ samePairs x y = true then ((p, lessB x y, lessB y x), 0) else ((0, [], []), 5)) else ((0, [], []), 1)
theorem rDiff_len (p : Int) (x : List Bk) (q : Int) (y : List Bk) : (rDiff p x q y).1.2.1.length ≤ 1048576 ∧ (rDiff p x q y).1.2.2.length ≤ 1048576 := by
  unfold rDiff
  split
  · rename_i h
    simp only [Bool.and_eq_true] at h
    have h1 := (sysB_iff.1 h.1).2.1
    have h2 := (sysB_iff.1 h.2).2.1
    have hlx : (lessB x y).length ≤ x.length := List.length_filter_le _ _
    have hly : (lessB y x).length ≤ y.length := List.length_filter_le _ _
    split
    · simp only; omega
    · simp
  · simp
theorem less_sort {p : Int} {x : List Bk} (h : IsSys p x) (y : List Bk) : sortB (lessB x y) = lessB x y := by
  have hs : x.Pairwise (fun a b => before b a = false) := by have := sortB_sorted _ x rfl; rwa [sys_sort h] at this
  exact (sort_uniq (List.Perm.refl _) (hs.filter _)).symm

theorem implDiff_ok {H : Heap} {u w : Value} {p q : Int} {x y : List Bk} (hu : BlocksAt H u x) (hl : x.length ≤ 1048576) (hw : BlocksAt H w y) (hl' : y.length ≤ 1048576) (Post : Value → Heap → Prop)
    (h : ∀ H' v z, H <+: H' → TradeIn H.length H'.length H' v z (rDiff p x q y).1.2.1 (rDiff p x q y).1.2.2 → Post (.tuple #[tradeV (rDiff p x q y).1.1 v z, .int .i64 (rDiff p x q y).2]) H') : ACalls Try.prog 64 [sysV p u, sysV q w] H Post := by
  have ou := hu.one
  have ow := hw.one
  refine ACalls.res ?_
  refine acalls_vc (rs := [.cell 4 62, .tmp 5]) Try.func64 rfl rfl Try.ntmps64 rfl rfl ?_
  simp (maxSteps := 1000000) [go_sem, sysV, ou, ow]
  have hp0 : H <+: H ++ [⟨[.int .i64 p, u], true, true⟩, ⟨[.int .i64 q, w], true, true⟩, ⟨[.int .i64 0, .slice none 0 0, .slice none 0 0], true, true⟩] := List.prefix_append _ _
  have hx0 : Holds (H ++ [(⟨[.int .i64 p, u], true, true⟩ : Blk), ⟨[.int .i64 q, w], true, true⟩, ⟨[.int .i64 0, .slice none 0 0, .slice none 0 0], true, true⟩]) H.length [.int .i64 p, u] := ⟨true, by simp⟩
  have hy0 : Holds (H ++ [(⟨[.int .i64 p, u], true, true⟩ : Blk), ⟨[.int .i64 q, w], true, true⟩, ⟨[.int .i64 0, .slice none 0 0, .slice none 0 0], true, true⟩]) (H.length + 1) [.int .i64 q, w] := ⟨true, by simp⟩
  have hb0 : (H ++ [(⟨[.int .i64 p, u], true, true⟩ : Blk), ⟨[.int .i64 q, w], true, true⟩, ⟨[.int .i64 0, .slice none 0 0, .slice none 0 0], true, true⟩])[H.length + 2]? = some ⟨[.int .i64 0, .slice none 0 0, .slice none 0 0], true, true⟩ := by simp
  have hlen : (H ++ [(⟨[.int .i64 p, u], true, true⟩ : Blk), ⟨[.int .i64 q, w], true, true⟩, ⟨[.int .i64 0, .slice none 0 0, .slice none 0 0], true, true⟩]).length = H.length + 3 := by simp
  generalize H ++ [(⟨[.int .i64 p, u], true, true⟩ : Blk), ⟨[.int .i64 q, w], true, true⟩, ⟨[.int .i64 0, .slice none 0 0, .slice none 0 0], true, true⟩] = H0 at hp0 hx0 hy0 hb0 hlen ⊢
  have bad : ∀ (H' : Heap) (c : Int), H0 <+: H' → rDiff p x q y = ((0, [], []), c) →
      storeAt H' (H.length + 2) 0 [.int .i64 0, .slice none 0 0, .slice none 0 0] = some (H'.set (H.length + 2) ⟨[.int .i64 0, .slice none 0 0, .slice none 0 0], true, true⟩) ∧
      cellsAt (H'.set (H.length + 2) ⟨[.int .i64 0, .slice none 0 0, .slice none 0 0], true, true⟩) (H.length + 2) 0 3 = some [.int .i64 0, .slice none 0 0, .slice none 0 0] ∧
      ∃ v', Up (H'.set (H.length + 2) ⟨[.int .i64 0, .slice none 0 0, .slice none 0 0], true, true⟩) (.tuple #[.agg #[.int .i64 0, .slice none 0 0, .slice none 0 0], .int .i64 c]) v' ∧ Post v' (H'.set (H.length + 2) ⟨[.int .i64 0, .slice none 0 0, .slice none 0 0], true, true⟩) := by
    intro H' c hp hr
    obtain ⟨q1, q2, q3, q4⟩ := put3 (cs := [.int .i64 0, .slice none 0 0, .slice none 0 0]) hp0 (show H.length ≤ H.length + 2 by omega) hb0 rfl hp rfl rfl
    have fin := h _ (lv 3 0 0 0) (lv 3 0 0 0) q3 (by rw [hr]; exact TradeIn.nil (by rw [List.length_set]; have := hp.length_le; omega) _)
    rw [hr] at fin
    exact ⟨q1, q2, _, Up.tuple (ys := #[tradeV 0 (lv 3 0 0 0) (lv 3 0 0 0), .int .i64 c]) ⟨zeroTr, Up.refl _ _, trivial⟩, fin⟩
  refine implIsSys (hu.pre hp0) _ ?_
  intro H1 hp1
  obtain ⟨d0, d1, d2⟩ := (hx0.pre hp1).sys
  obtain ⟨e0, e1, e2⟩ := (hy0.pre hp1).sys
  cases hs : sysB p x with
  | false =>
    obtain ⟨q1, q2, fin⟩ := bad H1 1 hp1 (by simp [rDiff, hs])
    simp (maxSteps := 1000000) [go_sem, undef, q1, q2]
    exact fin
  | true =>
    simp (maxSteps := 1000000) [go_sem, e0]
    refine implIsSys (hw.pre (hp0.trans hp1)) _ ?_
    intro H2 hp2
    have hp12 := hp1.trans hp2
    obtain ⟨d0, d1, d2⟩ := (hx0.pre hp12).sys
    obtain ⟨e0, e1, e2⟩ := (hy0.pre hp12).sys
    cases hs2 : sysB q y with
    | false =>
      obtain ⟨q1, q2, fin⟩ := bad H2 1 hp12 (by simp [rDiff, hs, hs2])
      simp (maxSteps := 1000000) [go_sem, undef, q1, q2]
      exact fin
    | true =>
      have hS := sysB_iff.1 hs
      have hT := sysB_iff.1 hs2
      by_cases hpq : p = q
      · subst hpq
        simp (maxSteps := 1000000) [go_sem, undef, d0, d1, d2, e0, e1, e2]
        refine haveSamePairs_ok (hu.pre (hp0.trans hp12)) (hw.pre (hp0.trans hp12)) hS hT _ ?_
        intro H3 hp3
        have hp13 := hp12.trans hp3
        obtain ⟨d0, d1, d2⟩ := (hx0.pre hp13).sys
        obtain ⟨e0, e1, e2⟩ := (hy0.pre hp13).sys
        cases hm : samePairs x y with
        | false =>
          obtain ⟨q1, q2, fin⟩ := bad H3 5 hp13 (by simp [rDiff, hs, hs2, hm])
          simp (maxSteps := 1000000) [go_sem, undef, q1, q2]
          exact fin
        | true =>
          have hr : rDiff p x p y = ((p, lessB x y, lessB y x), 0) := by simp [rDiff, hs, hs2, hm]
          simp (maxSteps := 1000000) [go_sem, undef]
          refine AWp.draw mixed [(0, false), (1, false), (2, false), (3, false), (4, false), (5, false), (7, false), (8, false), (9, false), (10, false), (6, true), (11, true), (12, false), (13, false), (14, false)] (by kernel_rfl) ?_
          simp (maxSteps := 1000000) [go_sem, undef, d0, d1, d2, e0, e1, e2]
          have hlx : (lessB x y).length ≤ x.length := List.length_filter_le _ _
          have hly : (lessB y x).length ≤ y.length := List.length_filter_le _ _
          refine less_ok (hu.pre (hp0.trans hp13)) (hw.pre (hp0.trans hp13)) hl _ ?_
          intro H4 v hp4 hv
          obtain ⟨d0, d1, d2⟩ := (hx0.pre (hp13.trans hp4)).sys
          obtain ⟨e0, e1, e2⟩ := (hy0.pre (hp13.trans hp4)).sys
          simp (maxSteps := 1000000) [go_sem, undef, hp4, d0, d1, d2, e0, e1, e2]
          refine less_ok (hw.pre (hp0.trans (hp13.trans hp4))) (hu.pre (hp0.trans (hp13.trans hp4))) hl' _ ?_
          intro H5 z hp5 hz
          have hv' := hv.pre hp5
          have hz' := hz
          obtain ⟨id1, ⟨rfl, _⟩, _⟩ := hv
          obtain ⟨id2, ⟨rfl, _⟩, _⟩ := hz
          obtain ⟨q1, q2, q3, q4⟩ := put3 (cs := [.int .i64 p, lv 3 id1 0 (lessB x y).length, lv 3 id2 0 (lessB y x).length]) hp0 (show H.length ≤ H.length + 2 by omega) hb0 rfl (hp13.trans (hp4.trans hp5)) rfl rfl
          have hle1 := hp13.length_le
          have hle2 := hp4.length_le
          have hle3 := hp5.length_le
          have hin : TradeIn H.length H5.length (H5.set (H.length + 2) ⟨[.int .i64 p, lv 3 id1 0 (lessB x y).length, lv 3 id2 0 (lessB y x).length], true, true⟩) (lv 3 id1 0 (lessB x y).length) (lv 3 id2 0 (lessB y x).length) (lessB x y) (lessB y x) :=
            ⟨H4.length, by omega, by omega, (hv'.keep q4 (fun j hj e => by have := hj.1; omega)).wider (by omega), hz'.keep q4 (fun j hj e => by have := hj.1; omega)⟩
          have fin := h _ _ _ q3 (by rw [hr, List.length_set]; exact hin)
          rw [hr] at fin
          simp (maxSteps := 1000000) [go_sem, undef, hp5, q1, q2]
          exact ⟨_, Up.refl _ _, fin⟩
      · have hpq' : (p == q) = false := by simpa using hpq
        have hpq2 : (p != q) = true := by simpa using hpq
        obtain ⟨q1, q2, fin⟩ := bad H2 5 hp12 (by simp [rDiff, hs, hs2, hpq])
        simp (maxSteps := 1000000) [go_sem, undef, d0, d1, d2, e0, e1, e2, hpq, hpq', hpq2, q1, q2]
        exact fin

theorem specDiff_ok {H : Heap} {u w : Value} {p q : Int} {x y : List Bk} (hu : BlocksAt H u x) (hl : x.length ≤ 1048576) (hw : BlocksAt H w y) (hl' : y.length ≤ 1048576) (Post : Value → Heap → Prop)
    (h : ∀ H' v z, H <+: H' → TradeIn H.length H'.length H' v z (rDiff p x q y).1.2.1 (rDiff p x q y).1.2.2 → Post (.tuple #[tradeV (rDiff p x q y).1.1 v z, .int .i64 (rDiff p x q y).2]) H') : ACalls Try.prog 63 [sysV p u, sysV q w] H Post := by
  have ou := hu.one
  have ow := hw.one
  refine ACalls.res ?_
  refine acalls_vc (rs := [.cell 4 62, .tmp 5]) Try.func63 rfl rfl Try.ntmps63 rfl rfl ?_
  simp (maxSteps := 1000000) [go_sem, sysV, ou, ow]
  have hp0 : H <+: H ++ [⟨[.int .i64 p, u], true, true⟩, ⟨[.int .i64 q, w], true, true⟩, ⟨[.int .i64 0, .slice none 0 0, .slice none 0 0], true, true⟩] := List.prefix_append _ _
  have hx0 : Holds (H ++ [(⟨[.int .i64 p, u], true, true⟩ : Blk), ⟨[.int .i64 q, w], true, true⟩, ⟨[.int .i64 0, .slice none 0 0, .slice none 0 0], true, true⟩]) H.length [.int .i64 p, u] := ⟨true, by simp⟩
  have hy0 : Holds (H ++ [(⟨[.int .i64 p, u], true, true⟩ : Blk), ⟨[.int .i64 q, w], true, true⟩, ⟨[.int .i64 0, .slice none 0 0, .slice none 0 0], true, true⟩]) (H.length + 1) [.int .i64 q, w] := ⟨true, by simp⟩
  have hb0 : (H ++ [(⟨[.int .i64 p, u], true, true⟩ : Blk), ⟨[.int .i64 q, w], true, true⟩, ⟨[.int .i64 0, .slice none 0 0, .slice none 0 0], true, true⟩])[H.length + 2]? = some ⟨[.int .i64 0, .slice none 0 0, .slice none 0 0], true, true⟩ := by simp
  have hlen : (H ++ [(⟨[.int .i64 p, u], true, true⟩ : Blk), ⟨[.int .i64 q, w], true, true⟩, ⟨[.int .i64 0, .slice none 0 0, .slice none 0 0], true, true⟩]).length = H.length + 3 := by simp
  generalize H ++ [(⟨[.int .i64 p, u], true, true⟩ : Blk), ⟨[.int .i64 q, w], true, true⟩, ⟨[.int .i64 0, .slice none 0 0, .slice none 0 0], true, true⟩] = H0 at hp0 hx0 hy0 hb0 hlen ⊢
  have bad : ∀ (H' : Heap) (c : Int), H0 <+: H' → rDiff p x q y = ((0, [], []), c) →
      storeAt H' (H.length + 2) 0 [.int .i64 0, .slice none 0 0, .slice none 0 0] = some (H'.set (H.length + 2) ⟨[.int .i64 0, .slice none 0 0, .slice none 0 0], true, true⟩) ∧
      cellsAt (H'.set (H.length + 2) ⟨[.int .i64 0, .slice none 0 0, .slice none 0 0], true, true⟩) (H.length + 2) 0 3 = some [.int .i64 0, .slice none 0 0, .slice none 0 0] ∧
      ∃ v', Up (H'.set (H.length + 2) ⟨[.int .i64 0, .slice none 0 0, .slice none 0 0], true, true⟩) (.tuple #[.agg #[.int .i64 0, .slice none 0 0, .slice none 0 0], .int .i64 c]) v' ∧ Post v' (H'.set (H.length + 2) ⟨[.int .i64 0, .slice none 0 0, .slice none 0 0], true, true⟩) := by
    intro H' c hp hr
    obtain ⟨q1, q2, q3, q4⟩ := put3 (cs := [.int .i64 0, .slice none 0 0, .slice none 0 0]) hp0 (show H.length ≤ H.length + 2 by omega) hb0 rfl hp rfl rfl
    have fin := h _ (lv 3 0 0 0) (lv 3 0 0 0) q3 (by rw [hr]; exact TradeIn.nil (by rw [List.length_set]; have := hp.length_le; omega) _)
    rw [hr] at fin
    exact ⟨q1, q2, _, Up.tuple (ys := #[tradeV 0 (lv 3 0 0 0) (lv 3 0 0 0), .int .i64 c]) ⟨zeroTr, Up.refl _ _, trivial⟩, fin⟩
  refine l01Is' (hu.pre hp0) hl _ ?_
  intro H1 hp1
  obtain ⟨d0, d1, d2⟩ := (hx0.pre hp1).sys
  obtain ⟨e0, e1, e2⟩ := (hy0.pre hp1).sys
  cases hs : sysB p x with
  | false =>
    obtain ⟨q1, q2, fin⟩ := bad H1 1 hp1 (by simp [rDiff, hs])
    simp (maxSteps := 1000000) [go_sem, undef, q1, q2]
    exact fin
  | true =>
    simp (maxSteps := 1000000) [go_sem, e0]
    refine l01Is' (hw.pre (hp0.trans hp1)) hl' _ ?_
    intro H2 hp2
    have hp12 := hp1.trans hp2
    obtain ⟨d0, d1, d2⟩ := (hx0.pre hp12).sys
    obtain ⟨e0, e1, e2⟩ := (hy0.pre hp12).sys
    cases hs2 : sysB q y with
    | false =>
      obtain ⟨q1, q2, fin⟩ := bad H2 1 hp12 (by simp [rDiff, hs, hs2])
      simp (maxSteps := 1000000) [go_sem, undef, q1, q2]
      exact fin
    | true =>
      have hS := sysB_iff.1 hs
      have hT := sysB_iff.1 hs2
      by_cases hpq : p = q
      · subst hpq
        simp (maxSteps := 1000000) [go_sem, undef, d0, d1, d2, e0, e1, e2]
        refine l04Same_ok (hu.pre (hp0.trans hp12)) (hw.pre (hp0.trans hp12)) hS.good15 hT.good15 hl hl' _ ?_
        intro H3 hp3
        have hp13 := hp12.trans hp3
        obtain ⟨d0, d1, d2⟩ := (hx0.pre hp13).sys
        obtain ⟨e0, e1, e2⟩ := (hy0.pre hp13).sys
        cases hm : samePairs x y with
        | false =>
          obtain ⟨q1, q2, fin⟩ := bad H3 5 hp13 (by simp [rDiff, hs, hs2, hm])
          simp (maxSteps := 1000000) [go_sem, undef, q1, q2]
          exact fin
        | true =>
          have hr : rDiff p x p y = ((p, lessB x y, lessB y x), 0) := by simp [rDiff, hs, hs2, hm]
          simp (maxSteps := 1000000) [go_sem, undef]
          refine AWp.draw mixed [(0, false), (1, false), (2, false), (3, false), (4, false), (5, false), (7, false), (8, false), (9, false), (10, false), (6, true), (11, true), (12, false), (13, false), (14, false)] (by kernel_rfl) ?_
          simp (maxSteps := 1000000) [go_sem, undef, d0, d1, d2, e0, e1, e2]
          have hlx : (lessB x y).length ≤ x.length := List.length_filter_le _ _
          have hly : (lessB y x).length ≤ y.length := List.length_filter_le _ _
          refine l04Less_ok (hu.pre (hp0.trans hp13)) (hw.pre (hp0.trans hp13)) hl _ ?_
          intro H4 v hp4 hv
          obtain ⟨d0, d1, d2⟩ := (hx0.pre (hp13.trans hp4)).sys
          obtain ⟨e0, e1, e2⟩ := (hy0.pre (hp13.trans hp4)).sys
          simp (maxSteps := 1000000) [go_sem, undef, hp4, d0, d1, d2, e0, e1, e2]
          refine l04Less_ok (hw.pre (hp0.trans (hp13.trans hp4))) (hu.pre (hp0.trans (hp13.trans hp4))) hl' _ ?_
          intro H5 z hp5 hz
          simp (maxSteps := 1000000) [go_sem, undef, hp5]
          refine l04Made_ok (hv.read.pre hp5) hz.read (by omega) (by omega) _ ?_
          intro H6 v' z' hp6 hv'
          rw [less_sort hS, less_sort hT] at hv'
          obtain ⟨a1, a2⟩ := hv'.read.one
          obtain ⟨q1, q2, q3, q4⟩ := put3 (cs := [.int .i64 p, v', z']) hp0 (show H.length ≤ H.length + 2 by omega) hb0 rfl (hp13.trans (hp4.trans (hp5.trans hp6))) rfl (by simp [a1, a2, one_int])
          have hle1 := hp13.length_le
          have hle2 := hp4.length_le
          have hle3 := hp5.length_le
          have fin := h _ v' z' q3 (by rw [hr, List.length_set]; exact (hv'.keep q4 (fun j hj e => by have := hj.1; omega)).wider (by omega))
          rw [hr] at fin
          simp (maxSteps := 1000000) [go_sem, undef, tradeV, hp6, q1, q2]
          exact ⟨_, Up.refl _ _, fin⟩
      · have hpq' : (p == q) = false := by simpa using hpq
        have hpq2 : (p != q) = true := by simpa using hpq
        obtain ⟨q1, q2, fin⟩ := bad H2 5 hp12 (by simp [rDiff, hs, hs2, hpq])
        simp (maxSteps := 1000000) [go_sem, undef, d0, d1, d2, e0, e1, e2, hpq, hpq', hpq2, q1, q2]
        exact fin

end Go.Proofs.Ytakkmkinfeddeaa
end
