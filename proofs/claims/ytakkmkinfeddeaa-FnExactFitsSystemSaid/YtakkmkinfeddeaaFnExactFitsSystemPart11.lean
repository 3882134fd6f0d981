/- Part 11 of what the proof of the law FnExactFitsSystem rests on: contracts of functions of the program, for every argument that each names; no statement of the seat is proved here. -/
import Derived.Test.YtakkmkinfeddeaaFnExactFitsSystemPart10

section
/- InverseTrade, FitsSystem. -/
set_option linter.all false
set_option maxRecDepth 20000
set_option maxHeartbeats 8000000
namespace Go.Proofs.Ytakkmkinfeddeaa
open Go.Ab Go.Sort

theorem put3 {H H0 H' : Heap} {id : Nat} {cs0 cs : List Value} (hp0 : H <+: H0) (hid : H.length ≤ id) (hb0 : H0[id]? = some ⟨cs0, true, true⟩) (h2 : cs0.length = 3) (hp : H0 <+: H') (hcl : cs.length = 3) (ho : cs.all Value.oneCell' = true) :
    storeAt H' id 0 cs = some (H'.set id ⟨cs, true, true⟩) ∧ cellsAt (H'.set id ⟨cs, true, true⟩) id 0 3 = some cs ∧ H <+: H'.set id ⟨cs, true, true⟩ ∧ Same (fun j => j = id) H' (H'.set id ⟨cs, true, true⟩) := by
  have hb' := Same.get (S := fun _ => False) (Same.of_prefix hp) hb0 (fun h => h)
  have hsame : Same (fun j => j = id) H' (H'.set id ⟨cs, true, true⟩) := ⟨by simp, fun j hj hS => List.getElem?_set_ne (fun e => hS e.symm)⟩
  refine ⟨?_, ?_, ((Same.of_prefix (hp0.trans hp)).trans hsame).prefix (by intro j hj he; omega), hsame⟩
  · rw [storeAt_of hb' rfl rfl (by simp [hcl, h2]) ho]
    match cs, hcl, cs0, h2 with
    | [x, y, z], _, [a, b, c], _ => simp [over]
  · have := Holds.cells (n := 3) (o := 0) (H := H'.set id ⟨cs, true, true⟩) ⟨true, List.getElem?_set_self (List.getElem?_eq_some_iff.1 hb').1⟩ (by omega)
    rw [this, List.drop_zero, List.take_of_length_le (by omega)]

theorem zeroTr {H : Heap} : Up H (.agg #[.int .i64 0, .slice none 0 0, .slice none 0 0]) (tradeV 0 (lv 3 0 0 0) (lv 3 0 0 0)) := Up.agg ⟨Up.refl _ _, Up.nil _ _ _ _, Up.nil _ _ _ _, trivial⟩

noncomputable def rInv (p : Int) (o i : List Bk) : (Int × List Bk × List Bk) × Int := if tradeB p o i then ((p, i, o), 0) else ((0, [], []), 1)
theorem tradeB_sys {p : Int} {o i : List Bk} (h : tradeB p o i = true) : IsSys p o ∧ IsSys p i := by
  unfold tradeB at h
  rw [Bool.and_eq_true, Bool.and_eq_true] at h
  exact ⟨sysB_of h.1, sysB_of h.2.1⟩
theorem rInv_len (p : Int) (o i : List Bk) : (rInv p o i).1.2.1.length ≤ 1048576 ∧ (rInv p o i).1.2.2.length ≤ 1048576 := by
  unfold rInv
  split
  · rename_i h
    obtain ⟨h1, h2⟩ := tradeB_sys h
    have := h1.2.1; have := h2.2.1
    simp only; omega
  · simp
theorem sys_sort {p : Int} {bs : List Bk} (h : IsSys p bs) : sortB bs = bs := sortB_asc (asc_of _ rfl h.2.2.1)

theorem l04Made_ok {H : Heap} {u w : Value} {p : Int} {o i : List Bk} (hu : BlocksAt H u o) (hw : BlocksAt H w i) (hl : o.length ≤ 1048576) (hl' : i.length ≤ 1048576) (Post : Value → Heap → Prop)
    (h : ∀ H' v x, H <+: H' → TradeIn H.length H'.length H' v x (sortB o) (sortB i) → Post (tradeV p v x) H') : ACalls Try.prog 135 [.int .i64 p, u, w] H Post := by
  refine acalls_vc (rs := [.cell 6 62]) Try.func135 rfl rfl Try.ntmps135 rfl rfl ?_
  simp (maxSteps := 1000000) [go_sem]
  have hp0 : H <+: H ++ [⟨[.int .i64 0, .slice none 0 0, .slice none 0 0], true, true⟩] := List.prefix_append _ _
  have hb0 : (H ++ [(⟨[.int .i64 0, .slice none 0 0, .slice none 0 0], true, true⟩ : Blk)])[H.length]? = some ⟨[.int .i64 0, .slice none 0 0, .slice none 0 0], true, true⟩ := by simp
  have hlen : (H ++ [(⟨[.int .i64 0, .slice none 0 0, .slice none 0 0], true, true⟩ : Blk)]).length = H.length + 1 := by simp
  generalize H ++ [(⟨[.int .i64 0, .slice none 0 0, .slice none 0 0], true, true⟩ : Blk)] = H0 at hp0 hb0 hlen ⊢
  refine l01Sort_ok (hu.pre hp0) hl _ ?_
  intro H1 v1 hp1 hv1
  simp (maxSteps := 1000000) [go_sem]
  refine l01Sort_ok (hw.pre (hp0.trans hp1)) hl' _ ?_
  intro H2 v2 hp2 hv2
  have hv1' := hv1.pre hp2
  have hv2' := hv2
  obtain ⟨id1, ⟨rfl, _⟩, _⟩ := hv1
  obtain ⟨id2, ⟨rfl, _⟩, _⟩ := hv2
  obtain ⟨q1, q2, q3, q4⟩ := put3 (cs := [.int .i64 p, lv 3 id1 0 (sortB o).length, lv 3 id2 0 (sortB i).length]) hp0 (Nat.le_refl _) hb0 rfl (hp1.trans hp2) rfl rfl
  have hle1 := hp1.length_le
  have hle2 := hp2.length_le
  simp (maxSteps := 1000000) [go_sem, q1, q2]
  refine h _ _ _ q3 ?_
  rw [List.length_set]
  exact ⟨H1.length, by omega, by omega, (hv1'.keep q4 (fun j hj e => by have := hj.1; omega)).wider (by omega), hv2'.keep q4 (fun j hj e => by have := hj.1; omega)⟩

theorem specInverse_ok {H : Heap} {u w : Value} {p : Int} {o i : List Bk} (ht : TradeAt H u w o i) (hl : o.length ≤ 1048576 ∧ i.length ≤ 1048576) (Post : Value → Heap → Prop)
    (h : ∀ H' v x, H <+: H' → TradeIn H.length H'.length H' v x (rInv p o i).1.2.1 (rInv p o i).1.2.2 → Post (.tuple #[tradeV (rInv p o i).1.1 v x, .int .i64 (rInv p o i).2]) H') : ACalls Try.prog 59 [tradeV p u w] H Post := by
  obtain ⟨ou, ow⟩ := ht.one
  refine ACalls.res ?_
  refine acalls_vc (rs := [.cell 2 62, .tmp 3]) Try.func59 rfl rfl Try.ntmps59 rfl rfl ?_
  simp (maxSteps := 1000000) [go_sem, tradeV, ou, ow]
  have hp0 : H <+: H ++ [⟨[.int .i64 p, u, w], true, true⟩, ⟨[.int .i64 0, .slice none 0 0, .slice none 0 0], true, true⟩] := List.prefix_append _ _
  have hx0 : Holds (H ++ [(⟨[.int .i64 p, u, w], true, true⟩ : Blk), ⟨[.int .i64 0, .slice none 0 0, .slice none 0 0], true, true⟩]) H.length [.int .i64 p, u, w] := ⟨true, by simp⟩
  have hb0 : (H ++ [(⟨[.int .i64 p, u, w], true, true⟩ : Blk), ⟨[.int .i64 0, .slice none 0 0, .slice none 0 0], true, true⟩])[H.length + 1]? = some ⟨[.int .i64 0, .slice none 0 0, .slice none 0 0], true, true⟩ := by simp
  have hlen : (H ++ [(⟨[.int .i64 p, u, w], true, true⟩ : Blk), ⟨[.int .i64 0, .slice none 0 0, .slice none 0 0], true, true⟩]).length = H.length + 2 := by simp
  generalize H ++ [(⟨[.int .i64 p, u, w], true, true⟩ : Blk), ⟨[.int .i64 0, .slice none 0 0, .slice none 0 0], true, true⟩] = H0 at hp0 hx0 hb0 hlen ⊢
  refine l04Is_ok (ht.1.pre hp0) (ht.2.pre hp0) hl.1 hl.2 _ ?_
  intro H1 hp1
  obtain ⟨d0, d1, d2, d3⟩ := (hx0.pre hp1).tr
  cases hs : tradeB p o i with
  | false =>
    have hr : rInv p o i = ((0, [], []), 1) := by simp [rInv, hs]
    obtain ⟨q1, q2, q3, q4⟩ := put3 (cs := [.int .i64 0, .slice none 0 0, .slice none 0 0]) hp0 (show H.length ≤ H.length + 1 by omega) hb0 rfl hp1 rfl rfl
    have fin := h _ (lv 3 0 0 0) (lv 3 0 0 0) q3 (by rw [hr]; exact TradeIn.nil (by rw [List.length_set]; have := hp1.length_le; omega) _)
    rw [hr] at fin
    simp (maxSteps := 1000000) [go_sem, q1, q2]
    exact ⟨_, Up.tuple (ys := #[tradeV 0 (lv 3 0 0 0) (lv 3 0 0 0), .int .i64 1]) ⟨zeroTr, Up.refl _ _, trivial⟩, fin⟩
  | true =>
    obtain ⟨hS1, hS2⟩ := tradeB_sys hs
    have hr : rInv p o i = ((p, i, o), 0) := by simp [rInv, hs]
    simp (maxSteps := 1000000) [go_sem, d1, d2, d3]
    refine l04Made_ok (ht.2.pre (hp0.trans hp1)) (ht.1.pre (hp0.trans hp1)) hl.2 hl.1 _ ?_
    intro H2 v x hp2 hv
    rw [sys_sort hS1, sys_sort hS2] at hv
    obtain ⟨a1, a2⟩ := hv.read.one
    obtain ⟨q1, q2, q3, q4⟩ := put3 (cs := [.int .i64 p, v, x]) hp0 (show H.length ≤ H.length + 1 by omega) hb0 rfl (hp1.trans hp2) rfl (by simp [a1, a2, one_int])
    have hle1 := hp1.length_le
    have fin := h _ v x q3 (by rw [hr, List.length_set]; exact (hv.keep q4 (fun j hj e => by have := hj.1; omega)).wider (by omega))
    rw [hr] at fin
    simp (maxSteps := 1000000) [go_sem, tradeV, q1, q2]
    exact ⟨_, Up.refl _ _, fin⟩

theorem implInverse_ok {H : Heap} {u w : Value} {p : Int} {o i : List Bk} (ht : TradeAt H u w o i) (hl : o.length ≤ 1048576 ∧ i.length ≤ 1048576) (Post : Value → Heap → Prop)
    (h : ∀ H' v x, H <+: H' → TradeIn H.length H'.length H' v x (rInv p o i).1.2.1 (rInv p o i).1.2.2 → Post (.tuple #[tradeV (rInv p o i).1.1 v x, .int .i64 (rInv p o i).2]) H') : ACalls Try.prog 60 [tradeV p u w] H Post := by
  obtain ⟨ou, ow⟩ := ht.one
  refine ACalls.res ?_
  refine acalls_vc (rs := [.cell 2 62, .tmp 3]) Try.func60 rfl rfl Try.ntmps60 rfl rfl ?_
  simp (maxSteps := 1000000) [go_sem, tradeV, ou, ow]
  have hp0 : H <+: H ++ [⟨[.int .i64 p, u, w], true, true⟩, ⟨[.int .i64 0, .slice none 0 0, .slice none 0 0], true, true⟩] := List.prefix_append _ _
  have hx0 : Holds (H ++ [(⟨[.int .i64 p, u, w], true, true⟩ : Blk), ⟨[.int .i64 0, .slice none 0 0, .slice none 0 0], true, true⟩]) H.length [.int .i64 p, u, w] := ⟨true, by simp⟩
  have hb0 : (H ++ [(⟨[.int .i64 p, u, w], true, true⟩ : Blk), ⟨[.int .i64 0, .slice none 0 0, .slice none 0 0], true, true⟩])[H.length + 1]? = some ⟨[.int .i64 0, .slice none 0 0, .slice none 0 0], true, true⟩ := by simp
  have hlen : (H ++ [(⟨[.int .i64 p, u, w], true, true⟩ : Blk), ⟨[.int .i64 0, .slice none 0 0, .slice none 0 0], true, true⟩]).length = H.length + 2 := by simp
  generalize H ++ [(⟨[.int .i64 p, u, w], true, true⟩ : Blk), ⟨[.int .i64 0, .slice none 0 0, .slice none 0 0], true, true⟩] = H0 at hp0 hx0 hb0 hlen ⊢
  have tv : Value.agg #[.int .i64 p, u, w] = tradeV p u w := rfl
  refine implIsTrade (ht.1.pre hp0) (ht.2.pre hp0) _ ?_
  intro H1 hp1
  obtain ⟨d0, d1, d2, d3⟩ := (hx0.pre hp1).tr
  cases hs : tradeB p o i with
  | false =>
    have hr : rInv p o i = ((0, [], []), 1) := by simp [rInv, hs]
    obtain ⟨q1, q2, q3, q4⟩ := put3 (cs := [.int .i64 0, .slice none 0 0, .slice none 0 0]) hp0 (show H.length ≤ H.length + 1 by omega) hb0 rfl hp1 rfl rfl
    have fin := h _ (lv 3 0 0 0) (lv 3 0 0 0) q3 (by rw [hr]; exact TradeIn.nil (by rw [List.length_set]; have := hp1.length_le; omega) _)
    rw [hr] at fin
    simp (maxSteps := 1000000) [go_sem, q1, q2]
    exact ⟨_, Up.tuple (ys := #[tradeV 0 (lv 3 0 0 0) (lv 3 0 0 0), .int .i64 1]) ⟨zeroTr, Up.refl _ _, trivial⟩, fin⟩
  | true =>
    have hr : rInv p o i = ((p, i, o), 0) := by simp [rInv, hs]
    simp (maxSteps := 1000000) [go_sem]
    refine AWp.draw mixed [(0, false), (1, false), (2, false), (3, false), (5, false), (6, false), (4, true), (7, true), (8, false), (9, false), (10, false)] (by kernel_rfl) ?_
    simp (maxSteps := 1000000) [go_sem, d1, d2, d3]
    refine cloneB_ok (ht.2.pre (hp0.trans hp1)) hl.2 _ ?_
    intro H2 v hp2 hv
    obtain ⟨d0, d1, d2, d3⟩ := (hx0.pre (hp1.trans hp2)).tr
    simp (maxSteps := 1000000) [go_sem, hp2, d1, d2, d3]
    refine cloneB_ok (ht.1.pre (hp0.trans (hp1.trans hp2))) hl.1 _ ?_
    intro H3 x hp3 hx
    have hv' := hv.pre hp3
    have hx' := hx
    obtain ⟨id1, ⟨rfl, _⟩, _⟩ := hv
    obtain ⟨id2, ⟨rfl, _⟩, _⟩ := hx
    obtain ⟨q1, q2, q3, q4⟩ := put3 (cs := [.int .i64 p, lv 3 id1 0 i.length, lv 3 id2 0 o.length]) hp0 (show H.length ≤ H.length + 1 by omega) hb0 rfl (hp1.trans (hp2.trans hp3)) rfl rfl
    have hle1 := hp1.length_le
    have hle2 := hp2.length_le
    have hle3 := hp3.length_le
    have hin : TradeIn H.length H3.length (H3.set (H.length + 1) ⟨[.int .i64 p, lv 3 id1 0 i.length, lv 3 id2 0 o.length], true, true⟩) (lv 3 id1 0 i.length) (lv 3 id2 0 o.length) i o :=
      ⟨H2.length, by omega, by omega, (hv'.keep q4 (fun j hj e => by have := hj.1; omega)).wider (by omega), hx'.keep q4 (fun j hj e => by have := hj.1; omega)⟩
    have fin := h _ _ _ q3 (by rw [hr, List.length_set]; exact hin)
    rw [hr] at fin
    simp (maxSteps := 1000000) [go_sem, hp3, q1, q2]
    exact ⟨_, Up.refl _ _, fin⟩

end Go.Proofs.Ytakkmkinfeddeaa
end

section
/- FitsSystem, both sides. -/
set_option linter.all false
set_option maxRecDepth 20000
set_option maxHeartbeats 8000000
namespace Go.Proofs.Ytakkmkinfeddeaa
open Go.Ab Go.Sort

noncomputable def rFits (p : Int) (bs : List Bk) (q : Int) (o i : List Bk) : Bool × Int := if sysB p bs && tradeB q o i then (fitsB p bs q o, 0) else (false, 1)

theorem filter_len {α : Type} (f : α → Bool) : ∀ l : List α, (decide ((l.filter f).length = l.length)) = l.all f
  | [] => rfl
  | x :: l => by
    have ih := filter_len f l
    have hle := List.length_filter_le f l
    cases h : f x with
    | true => simp [h, ← ih]
    | false =>
      simp only [List.filter_cons, h, List.all_cons, Bool.false_and]
      simp only [Bool.false_eq_true, if_false, List.length_cons]
      exact decide_eq_false (by omega)

theorem implFits_ok {H : Heap} {u v w : Value} {p q : Int} {bs o i : List Bk} (hu : BlocksAt H u bs) (ht : TradeAt H v w o i) (hl : o.length ≤ 1048576) (Post : Value → Heap → Prop) (h : ∀ H', H <+: H' → Post (.bool (fitsB p bs q o)) H') :
    ACalls Try.prog 134 [sysV p u, tradeV q v w] H Post := by
  have ou := hu.one
  obtain ⟨ov, ow⟩ := ht.one
  refine acalls_vc (rs := [.tmp 4]) Try.func134 rfl rfl Try.ntmps134 rfl rfl ?_
  simp (maxSteps := 1000000) [go_sem, sysV, tradeV, ou, ov, ow]
  have hp0 : H <+: H ++ [⟨[.int .i64 p, u], true, true⟩, ⟨[.int .i64 q, v, w], true, true⟩] := List.prefix_append _ _
  have hx0 : Holds (H ++ [(⟨[.int .i64 p, u], true, true⟩ : Blk), ⟨[.int .i64 q, v, w], true, true⟩]) H.length [.int .i64 p, u] := ⟨true, by simp⟩
  have hy0 : Holds (H ++ [(⟨[.int .i64 p, u], true, true⟩ : Blk), ⟨[.int .i64 q, v, w], true, true⟩]) (H.length + 1) [.int .i64 q, v, w] := ⟨true, by simp⟩
  generalize H ++ [(⟨[.int .i64 p, u], true, true⟩ : Blk), ⟨[.int .i64 q, v, w], true, true⟩] = H0 at hp0 hx0 hy0 ⊢
  have hv1 := ht.1
  obtain ⟨j, r, ev, _, _⟩ := hv1
  subst ev
  obtain ⟨d0, d1, d2⟩ := hx0.sys
  obtain ⟨e0, e1, e2, e3⟩ := hy0.tr
  refine AWp.draw mixed [(0, false), (1, false), (2, false), (3, false), (4, false), (5, false), (6, false), (7, false), (8, false), (9, false), (12, false), (13, false), (14, false), (10, true), (11, false), (15, false), (16, false), (17, false)] (by kernel_rfl) ?_
  by_cases hpq : p = q
  · have hpq' : (p == q) = true := by simpa using hpq
    simp (maxSteps := 1000000) [go_sem, d1, d2, e1, e2, hpq, hpq']
    refine implCommon_ok (ht.1.pre hp0) (hu.pre hp0) hl _ ?_
    intro H1 x hp1 hx
    obtain ⟨f0, f1, f2, f3⟩ := (hy0.pre hp1).tr
    obtain ⟨id, ⟨rfl, _⟩, _⟩ := hx
    have fin := h H1 (hp0.trans hp1)
    have hfl := filter_len (memB bs) o
    have e : fitsB p bs q o = decide ((o.filter (memB bs)).length = o.length) := by rw [hfl]; unfold fitsB; rw [decide_eq_true hpq, Bool.true_and]
    rw [e] at fin
    generalize (o.filter (memB bs)).length = m at *
    have hbm : ((m : Int) == (o.length : Int)) = decide (m = o.length) := by
      by_cases hm : m = o.length
      · simp [hm]
      · have : ((m : Int) == (o.length : Int)) = false := by rw [beq_eq_false_iff_ne]; omega
        rw [this, decide_eq_false hm]
    simp (maxSteps := 1000000) [go_sem, hp1, f2, hbm]
    exact fin
  · have hpq' : (p == q) = false := by rw [beq_eq_false_iff_ne]; exact hpq
    have fin := h H0 hp0
    have e : fitsB p bs q o = false := by simp [fitsB, hpq]
    rw [e] at fin
    simp (maxSteps := 1000000) [go_sem, undef, d1, d2, e1, e2, hpq, hpq']
    exact fin

theorem l04Fits_ok {H : Heap} {u v w : Value} {p q : Int} {bs o i : List Bk} (hu : BlocksAt H u bs) (ht : TradeAt H v w o i) (hl : o.length ≤ 1048576) (Post : Value → Heap → Prop) (h : ∀ H', H <+: H' → Post (.bool (fitsB p bs q o)) H') :
    ACalls Try.prog 133 [sysV p u, tradeV q v w] H Post := by
  have ou := hu.one
  obtain ⟨ov, ow⟩ := ht.one
  refine acalls_vc (rs := [.tmp 4]) Try.func133 rfl rfl Try.ntmps133 rfl rfl ?_
  simp (maxSteps := 1000000) [go_sem, sysV, tradeV, ou, ov, ow]
  have hp0 : H <+: H ++ [⟨[.int .i64 p, u], true, true⟩, ⟨[.int .i64 q, v, w], true, true⟩] := List.prefix_append _ _
  have hx0 : Holds (H ++ [(⟨[.int .i64 p, u], true, true⟩ : Blk), ⟨[.int .i64 q, v, w], true, true⟩]) H.length [.int .i64 p, u] := ⟨true, by simp⟩
  have hy0 : Holds (H ++ [(⟨[.int .i64 p, u], true, true⟩ : Blk), ⟨[.int .i64 q, v, w], true, true⟩]) (H.length + 1) [.int .i64 q, v, w] := ⟨true, by simp⟩
  generalize H ++ [(⟨[.int .i64 p, u], true, true⟩ : Blk), ⟨[.int .i64 q, v, w], true, true⟩] = H0 at hp0 hx0 hy0 ⊢
  by_cases hpq : p = q
  · have hpq' : (p != q) = false := by simp [hpq]
    have e : fitsB p bs q o = o.all (memB bs) := by simp [fitsB, hpq]
    rw [e] at h
    try simp (maxSteps := 1000000) [go_sem, hpq, hpq']
    refine AWp.loopVc (fun s : Nat => [(2, .pointer (some ⟨H.length, 0, none⟩)), (3, .pointer (some ⟨H.length + 1, 0, none⟩)), (5, .int .i64 s)])
      (fun s H' => s ≤ o.length ∧ H0 <+: H' ∧ ∀ b ∈ o.take s, memB bs b = true) (fun s => o.length - s) 0 ?_ ?_ ?_
    · simp [upF, Fr.get, Up.refl]
    · exact ⟨by omega, List.prefix_refl _, by simp⟩
    · rintro K s H1 ⟨hs, hp1, hf⟩ hK
      obtain ⟨d0, d1, d2⟩ := (hx0.pre hp1).sys
      obtain ⟨e0, e1, e2, e3⟩ := (hy0.pre hp1).tr
      have hu1 := hu.pre (hp0.trans hp1)
      obtain ⟨j, r, ev, g1, g2⟩ := ht.1.pre (hp0.trans hp1)
      subst ev
      by_cases hlt : s < o.length
      · have hbs : o[s]? = some o[s] := List.getElem?_eq_getElem hlt
        have c1 := g1.bk hbs
        simp only [Bk.cells] at c1
        have htk := List.take_succ_eq_append_getElem hlt
        have hmem := List.mem_of_getElem? hbs
        generalize o[s] = b at *
        have hw_s : IntKind.i64.wrap ((s : Int) + 1) = (s : Int) + 1 := i64w (by omega) (by omega)
        simp (maxSteps := 1000000) [go_sem, hlt, e2]
        refine AWp.draw mixed [(0, false), (1, false), (2, false), (3, false), (4, false), (5, false), (6, false), (7, false)] (by kernel_rfl) ?_
        simp (maxSteps := 1000000) [go_sem, hlt, d0, e2, c1]
        refine l01Has_ok (b := b) hu1 _ ?_
        intro H2 hp2
        cases hm : memB bs b with
        | false =>
          have fin := h H2 (hp0.trans (hp1.trans hp2))
          have e : o.all (memB bs) = false := List.all_eq_false.2 ⟨b, hmem, by simp [hm]⟩
          rw [e] at fin
          simp (maxSteps := 1000000) [go_sem]
          exact fin
        | true =>
          simp (maxSteps := 1000000) [go_sem, hw_s]
          refine hK (s + 1) _ _ (by omega) (by simp [upF, Fr.get, Up.refl]) ⟨by omega, hp1.trans hp2, ?_⟩
          intro x hx
          rw [htk, List.mem_append] at hx
          rcases hx with hx | hx
          · exact hf x hx
          · simp at hx; subst hx; exact hm
      · have : s = o.length := by omega
        subst this
        rw [List.take_length] at hf
        have fin := h H1 (hp0.trans hp1)
        have e : o.all (memB bs) = true := List.all_eq_true.2 hf
        rw [e] at fin
        simp (maxSteps := 1000000) [go_sem, e2]
        exact fin
  · have hpq' : (p != q) = true := by simp [hpq]
    have fin := h H0 hp0
    have e : fitsB p bs q o = false := by simp [fitsB, hpq]
    rw [e] at fin
    try simp (maxSteps := 1000000) [go_sem, hpq, hpq']
    exact fin

theorem specFitsSystem_ok {H : Heap} {u v w : Value} {p q : Int} {bs o i : List Bk} (hu : BlocksAt H u bs) (hlu : bs.length ≤ 1048576) (ht : TradeAt H v w o i) (hl : o.length ≤ 1048576 ∧ i.length ≤ 1048576) (Post : Value → Heap → Prop)
    (h : ∀ H', H <+: H' → Post (.tuple #[.bool (rFits p bs q o i).1, .int .i64 (rFits p bs q o i).2]) H') : ACalls Try.prog 57 [sysV p u, tradeV q v w] H Post := by
  have ou := hu.one
  obtain ⟨ov, ow⟩ := ht.one
  refine acalls_vc (rs := [.tmp 4, .tmp 5]) Try.func57 rfl rfl Try.ntmps57 rfl rfl ?_
  simp (maxSteps := 1000000) [go_sem, sysV, tradeV, ou, ov, ow]
  have hp0 : H <+: H ++ [⟨[.int .i64 p, u], true, true⟩, ⟨[.int .i64 q, v, w], true, true⟩] := List.prefix_append _ _
  have hx0 : Holds (H ++ [(⟨[.int .i64 p, u], true, true⟩ : Blk), ⟨[.int .i64 q, v, w], true, true⟩]) H.length [.int .i64 p, u] := ⟨true, by simp⟩
  have hy0 : Holds (H ++ [(⟨[.int .i64 p, u], true, true⟩ : Blk), ⟨[.int .i64 q, v, w], true, true⟩]) (H.length + 1) [.int .i64 q, v, w] := ⟨true, by simp⟩
  generalize H ++ [(⟨[.int .i64 p, u], true, true⟩ : Blk), ⟨[.int .i64 q, v, w], true, true⟩] = H0 at hp0 hx0 hy0 ⊢
  refine l01Is' (hu.pre hp0) hlu _ ?_
  intro H1 hp1
  obtain ⟨e0, e1, e2, e3⟩ := (hy0.pre hp1).tr
  cases hs : sysB p bs with
  | false =>
    have fin := h H1 (hp0.trans hp1)
    simp only [rFits, hs, Bool.false_and, Bool.false_eq_true, if_false] at fin
    simp (maxSteps := 1000000) [go_sem, undef]
    exact fin
  | true =>
    simp (maxSteps := 1000000) [go_sem, e0]
    refine l04Is_ok (ht.1.pre (hp0.trans hp1)) (ht.2.pre (hp0.trans hp1)) hl.1 hl.2 _ ?_
    intro H2 hp2
    obtain ⟨d0, d1, d2⟩ := (hx0.pre (hp1.trans hp2)).sys
    obtain ⟨e0, e1, e2, e3⟩ := (hy0.pre (hp1.trans hp2)).tr
    cases hs2 : tradeB q o i with
    | false =>
      have fin := h H2 (hp0.trans (hp1.trans hp2))
      simp only [rFits, hs, hs2, Bool.and_false, Bool.false_eq_true, if_false] at fin
      simp (maxSteps := 1000000) [go_sem]
      exact fin
    | true =>
      simp (maxSteps := 1000000) [go_sem, d0, e0]
      refine l04Fits_ok (hu.pre (hp0.trans (hp1.trans hp2))) (ht.pre (hp0.trans (hp1.trans hp2))) hl.1 _ ?_
      intro H3 hp3
      have fin := h H3 (hp0.trans (hp1.trans (hp2.trans hp3)))
      simp only [rFits, hs, hs2, Bool.and_self, if_true] at fin
      simp (maxSteps := 1000000) [go_sem]
      exact fin

theorem implFitsSystem_ok {H : Heap} {u v w : Value} {p q : Int} {bs o i : List Bk} (hu : BlocksAt H u bs) (hlu : bs.length ≤ 1048576) (ht : TradeAt H v w o i) (hl : o.length ≤ 1048576 ∧ i.length ≤ 1048576) (Post : Value → Heap → Prop)
    (h : ∀ H', H <+: H' → Post (.tuple #[.bool (rFits p bs q o i).1, .int .i64 (rFits p bs q o i).2]) H') : ACalls Try.prog 58 [sysV p u, tradeV q v w] H Post := by
  have ou := hu.one
  obtain ⟨ov, ow⟩ := ht.one
  refine acalls_vc (rs := [.tmp 4, .tmp 5]) Try.func58 rfl rfl Try.ntmps58 rfl rfl ?_
  simp (maxSteps := 1000000) [go_sem, sysV, tradeV, ou, ov, ow]
  have hp0 : H <+: H ++ [⟨[.int .i64 p, u], true, true⟩, ⟨[.int .i64 q, v, w], true, true⟩] := List.prefix_append _ _
  have hx0 : Holds (H ++ [(⟨[.int .i64 p, u], true, true⟩ : Blk), ⟨[.int .i64 q, v, w], true, true⟩]) H.length [.int .i64 p, u] := ⟨true, by simp⟩
  have hy0 : Holds (H ++ [(⟨[.int .i64 p, u], true, true⟩ : Blk), ⟨[.int .i64 q, v, w], true, true⟩]) (H.length + 1) [.int .i64 q, v, w] := ⟨true, by simp⟩
  generalize H ++ [(⟨[.int .i64 p, u], true, true⟩ : Blk), ⟨[.int .i64 q, v, w], true, true⟩] = H0 at hp0 hx0 hy0 ⊢
  refine implIsSys (hu.pre hp0) _ ?_
  intro H1 hp1
  obtain ⟨e0, e1, e2, e3⟩ := (hy0.pre hp1).tr
  cases hs : sysB p bs with
  | false =>
    have fin := h H1 (hp0.trans hp1)
    simp only [rFits, hs, Bool.false_and, Bool.false_eq_true, if_false] at fin
    simp (maxSteps := 1000000) [go_sem, undef]
    exact fin
  | true =>
    simp (maxSteps := 1000000) [go_sem, e0]
    refine implIsTrade (ht.1.pre (hp0.trans hp1)) (ht.2.pre (hp0.trans hp1)) _ ?_
    intro H2 hp2
    obtain ⟨d0, d1, d2⟩ := (hx0.pre (hp1.trans hp2)).sys
    obtain ⟨e0, e1, e2, e3⟩ := (hy0.pre (hp1.trans hp2)).tr
    cases hs2 : tradeB q o i with
    | false =>
      have fin := h H2 (hp0.trans (hp1.trans hp2))
      simp only [rFits, hs, hs2, Bool.and_false, Bool.false_eq_true, if_false] at fin
      simp (maxSteps := 1000000) [go_sem]
      exact fin
    | true =>
      simp (maxSteps := 1000000) [go_sem, d0, e0]
      refine implFits_ok (hu.pre (hp0.trans (hp1.trans hp2))) (ht.pre (hp0.trans (hp1.trans hp2))) hl.1 _ ?_
      intro H3 hp3
      have fin := h H3 (hp0.trans (hp1.trans (hp2.trans hp3)))
      simp only [rFits, hs, hs2, Bool.and_self, if_true] at fin
      simp (maxSteps := 1000000) [go_sem]
      exact fin

end Go.Proofs.Ytakkmkinfeddeaa
end

section
/- The law on FitsSystem, in abstract terms: its code returns true, for every input. -/
set_option linter.all false
set_option maxRecDepth 20000
namespace Go.Proofs.Ytakkmkinfeddeaa
open Go.Ab

theorem lawFnExactFitsSystem (H : Heap) (avs : List Value) (h : argsSay [shSystem, shTrade] H avs) : ACalls Try.prog 11 avs H fun v _ => v = .bool true := by
  obtain ⟨_, _, rfl, a0, _, _, rfl, a1, rfl⟩ := h
  obtain ⟨p0, u0, b0, rfl, hp00, hz0, hw0⟩ := says_shSystem a0
  have one0 : u0.oneCell' = true := by obtain ⟨i, o, rfl, _⟩ := hz0; rfl
  obtain ⟨p1, u1, y1, o1, i1, rfl, hp01, hz1⟩ := says_shTrade a1
  have one1 : u1.oneCell' = true := by obtain ⟨⟨i, o, rfl, _⟩, _⟩ := hz1; rfl
  have two1 : y1.oneCell' = true := by obtain ⟨_, ⟨i, o, rfl, _⟩⟩ := hz1; rfl
  refine acalls_vc (rs := [.tmp 4]) Try.func11 rfl rfl Try.ntmps11 rfl rfl ?_
  try simp (maxSteps := 1000000) [go_sem, one0, one1, sysV, tradeV, two1]
  have hp1 : H <+: H ++ [(⟨[.int .i64 p0, u0], true, true⟩ : Blk), (⟨[.int .i64 p1, u1, y1], true, true⟩ : Blk)] := List.prefix_append _ _
  have bx0 : Holds (H ++ [(⟨[.int .i64 p0, u0], true, true⟩ : Blk), (⟨[.int .i64 p1, u1, y1], true, true⟩ : Blk)]) (H.length) [.int .i64 p0, u0] := ⟨true, by simp⟩
  have bx1 : Holds (H ++ [(⟨[.int .i64 p0, u0], true, true⟩ : Blk), (⟨[.int .i64 p1, u1, y1], true, true⟩ : Blk)]) (H.length + 1) [.int .i64 p1, u1, y1] := ⟨true, by simp⟩
  have hbH1 : (H ++ [(⟨[.int .i64 p0, u0], true, true⟩ : Blk), (⟨[.int .i64 p1, u1, y1], true, true⟩ : Blk)]).length = H.length + 2 := by simp
  generalize H ++ [(⟨[.int .i64 p0, u0], true, true⟩ : Blk), (⟨[.int .i64 p1, u1, y1], true, true⟩ : Blk)] = H1 at hp1 hbH1 bx0 bx1 ⊢
  have hlH1 := hp1.length_le
  have qz0 := hp1
  have qz1 := hp1
  obtain ⟨d0a, d0b, d0c⟩ := bx0.sys
  obtain ⟨d1a, d1b, d1c, d1d⟩ := bx1.tr
  refine szSystem0_ok (hz0.pre qz0) (by omega) (by omega) _ ?_
  intro H2 hp2
  replace bx0 := bx0.pre hp2
  replace bx1 := bx1.pre hp2
  replace qz0 := qz0.trans hp2
  replace qz1 := qz1.trans hp2
  have hlH2 := hp2.length_le
  obtain ⟨d0a, d0b, d0c⟩ := bx0.sys
  obtain ⟨d1a, d1b, d1c, d1d⟩ := bx1.tr
  by_cases hbig0 : (1048576 : Int) < b0.length
  · simp (maxSteps := 1000000) [go_sem, hbig0, one0, one1, sysV, tradeV, two1]
  have hneg0 : decide ((1048576 : Int) - b0.length < 0) = false := by simp; omega
  have hl0 : b0.length ≤ 1048576 := by omega
  have hq0 := hz0.at (by omega)
  try simp (maxSteps := 1000000) [go_sem, hbig0, hneg0, one0, one1, sysV, tradeV, two1, d0a, d0b, d0c, d1a, d1b, d1c, d1d]
  refine szTrade0_ok (hz1.pre qz1) (by omega) (by omega) _ ?_
  intro H3 hp3
  replace bx0 := bx0.pre hp3
  replace bx1 := bx1.pre hp3
  replace qz1 := qz1.trans hp3
  replace qz0 := qz0.trans hp3
  have hlH3 := hp3.length_le
  obtain ⟨d0a, d0b, d0c⟩ := bx0.sys
  obtain ⟨d1a, d1b, d1c, d1d⟩ := bx1.tr
  by_cases hbig1 : (1048576 - b0.length : Int) < o1.length
  · simp (maxSteps := 1000000) [go_sem, hbig1, hbig0, hneg0, one0, one1, sysV, tradeV, two1]
  by_cases hbih1 : (1048576 - b0.length : Int) - o1.length < i1.length
  · simp (maxSteps := 1000000) [go_sem, hbig1, hbih1, hbig0, hneg0, one0, one1, sysV, tradeV, two1]
  have hneg1 : decide ((1048576 - b0.length : Int) - o1.length - i1.length < 0) = false := by simp; omega
  have hl1 : o1.length ≤ 1048576 ∧ i1.length ≤ 1048576 := by omega
  have hq1 := hz1.at hl1
  try simp (maxSteps := 1000000) [go_sem, hbig0, hbig1, hbih1, hneg0, hneg1, one0, one1, sysV, tradeV, two1, d0a, d0b, d0c, d1a, d1b, d1c, d1d]
  refine AWp.draw mixed [(0, false), (2, false), (1, true), (3, false), (4, false), (5, false), (6, false), (7, false), (8, false), (9, false)] (by kernel_rfl) ?_
  try simp (maxSteps := 1000000) [go_sem, hbig0, hbig1, hbih1, hneg0, hneg1, one0, one1, sysV, tradeV, two1, d0a, d0b, d0c, d1a, d1b, d1c, d1d]
  refine toSys_ok (hq0.pre qz0) hl0 _ ?_
  intro H4 wo4 hp4 hoo4
  replace bx0 := bx0.pre hp4
  replace bx1 := bx1.pre hp4
  replace qz0 := qz0.trans hp4
  replace qz1 := qz1.trans hp4
  have hlH4 := hp4.length_le
  obtain ⟨d0a, d0b, d0c⟩ := bx0.sys
  obtain ⟨d1a, d1b, d1c, d1d⟩ := bx1.tr
  try simp (maxSteps := 1000000) [go_sem, hbig0, hbig1, hbih1, hneg0, hneg1, hp4, one0, one1, sysV, tradeV, two1, d0a, d0b, d0c, d1a, d1b, d1c, d1d]
  refine toTr_ok (hq1.pre qz1) hl1 _ ?_
  intro H5 wo5 yo5 hp5 hoo5
  replace bx0 := bx0.pre hp5
  replace bx1 := bx1.pre hp5
  replace hoo4 := hoo4.pre hp5
  replace qz0 := qz0.trans hp5
  replace qz1 := qz1.trans hp5
  have hlH5 := hp5.length_le
  obtain ⟨d0a, d0b, d0c⟩ := bx0.sys
  obtain ⟨d1a, d1b, d1c, d1d⟩ := bx1.tr
  try simp (maxSteps := 1000000) [go_sem, hbig0, hbig1, hbih1, hneg0, hneg1, hp4, one0, one1, sysV, tradeV, two1, d0a, d0b, d0c, d1a, d1b, d1c, d1d]
  refine specFitsSystem_ok hoo4.read hl0 hoo5.read hl1 _ ?_
  intro H6  hp6 
  replace bx0 := bx0.pre hp6
  replace bx1 := bx1.pre hp6
  replace hoo4 := hoo4.pre hp6
  replace hoo5 := hoo5.pre hp6
  replace qz0 := qz0.trans hp6
  replace qz1 := qz1.trans hp6
  have hlH6 := hp6.length_le
  obtain ⟨d0a, d0b, d0c⟩ := bx0.sys
  obtain ⟨d1a, d1b, d1c, d1d⟩ := bx1.tr
  try simp (maxSteps := 1000000) [go_sem, hbig0, hbig1, hbih1, hneg0, hneg1, hp4, one0, one1, sysV, tradeV, two1, d0a, d0b, d0c, d1a, d1b, d1c, d1d]
  refine toSys_ok (hq0.pre qz0) hl0 _ ?_
  intro H7 wo7 hp7 hoo7
  replace bx0 := bx0.pre hp7
  replace bx1 := bx1.pre hp7
  replace hoo4 := hoo4.pre hp7
  replace hoo5 := hoo5.pre hp7
  replace qz0 := qz0.trans hp7
  replace qz1 := qz1.trans hp7
  have hlH7 := hp7.length_le
  obtain ⟨d0a, d0b, d0c⟩ := bx0.sys
  obtain ⟨d1a, d1b, d1c, d1d⟩ := bx1.tr
  have one_o7 : wo7.oneCell' = true := hoo7.read.one
  try simp (maxSteps := 1000000) [go_sem, hbig0, hbig1, hbih1, hneg0, hneg1, hp4, one0, one1, one_o7, sysV, tradeV, two1, d0a, d0b, d0c, d1a, d1b, d1c, d1d]
  have bxo7 := Holds.last H7 [.int .i64 p0, wo7]
  have hp8 : H7 <+: H7 ++ [(⟨[.int .i64 p0, wo7], true, true⟩ : Blk)] := List.prefix_append _ _
  have hbH8 : (H7 ++ [(⟨[.int .i64 p0, wo7], true, true⟩ : Blk)]).length = H7.length + 1 := by simp
  generalize H7 ++ [(⟨[.int .i64 p0, wo7], true, true⟩ : Blk)] = H8 at bxo7 hp8 hbH8 ⊢
  replace bx0 := bx0.pre hp8
  replace bx1 := bx1.pre hp8
  replace hoo4 := hoo4.pre hp8
  replace hoo5 := hoo5.pre hp8
  replace hoo7 := hoo7.pre hp8
  replace qz0 := qz0.trans hp8
  replace qz1 := qz1.trans hp8
  have hlH8 := hp8.length_le
  obtain ⟨d0a, d0b, d0c⟩ := bx0.sys
  obtain ⟨d1a, d1b, d1c, d1d⟩ := bx1.tr
  obtain ⟨eo7a, eo7b, eo7c⟩ := bxo7.sys
  try simp (maxSteps := 1000000) [go_sem, hbig0, hbig1, hbih1, hneg0, hneg1, hp4, one0, one1, one_o7, sysV, tradeV, two1, d0a, d0b, d0c, d1a, d1b, d1c, d1d, eo7a, eo7b, eo7c]
  refine toTr_ok (hq1.pre qz1) hl1 _ ?_
  intro H9 wo9 yo9 hp9 hoo9
  replace bx0 := bx0.pre hp9
  replace bx1 := bx1.pre hp9
  replace bxo7 := bxo7.pre hp9
  replace hoo4 := hoo4.pre hp9
  replace hoo5 := hoo5.pre hp9
  replace hoo7 := hoo7.pre hp9
  replace qz0 := qz0.trans hp9
  replace qz1 := qz1.trans hp9
  have hlH9 := hp9.length_le
  obtain ⟨d0a, d0b, d0c⟩ := bx0.sys
  obtain ⟨d1a, d1b, d1c, d1d⟩ := bx1.tr
  obtain ⟨eo7a, eo7b, eo7c⟩ := bxo7.sys
  have one_o9 : wo9.oneCell' = true := hoo9.read.one.1
  have two_o9 : yo9.oneCell' = true := hoo9.read.one.2
  try simp (maxSteps := 1000000) [go_sem, hbig0, hbig1, hbih1, hneg0, hneg1, hp4, one0, one1, one_o7, one_o9, sysV, tradeV, two1, two_o9, d0a, d0b, d0c, d1a, d1b, d1c, d1d, eo7a, eo7b, eo7c]
  have bxo9 := Holds.last H9 [.int .i64 p1, wo9, yo9]
  have hp10 : H9 <+: H9 ++ [(⟨[.int .i64 p1, wo9, yo9], true, true⟩ : Blk)] := List.prefix_append _ _
  have hbH10 : (H9 ++ [(⟨[.int .i64 p1, wo9, yo9], true, true⟩ : Blk)]).length = H9.length + 1 := by simp
  generalize H9 ++ [(⟨[.int .i64 p1, wo9, yo9], true, true⟩ : Blk)] = H10 at bxo9 hp10 hbH10 ⊢
  replace bx0 := bx0.pre hp10
  replace bx1 := bx1.pre hp10
  replace bxo7 := bxo7.pre hp10
  replace hoo4 := hoo4.pre hp10
  replace hoo5 := hoo5.pre hp10
  replace hoo7 := hoo7.pre hp10
  replace hoo9 := hoo9.pre hp10
  replace qz0 := qz0.trans hp10
  replace qz1 := qz1.trans hp10
  have hlH10 := hp10.length_le
  obtain ⟨d0a, d0b, d0c⟩ := bx0.sys
  obtain ⟨d1a, d1b, d1c, d1d⟩ := bx1.tr
  obtain ⟨eo7a, eo7b, eo7c⟩ := bxo7.sys
  obtain ⟨eo9a, eo9b, eo9c, eo9d⟩ := bxo9.tr
  try simp (maxSteps := 1000000) [go_sem, hbig0, hbig1, hbih1, hneg0, hneg1, hp4, one0, one1, one_o7, one_o9, sysV, tradeV, two1, two_o9, d0a, d0b, d0c, d1a, d1b, d1c, d1d, eo7a, eo7b, eo7c, eo9a, eo9b, eo9c, eo9d]
  refine implFitsSystem_ok hoo7.read hl0 hoo9.read hl1 _ ?_
  intro H11  hp11 
  replace bx0 := bx0.pre hp11
  replace bx1 := bx1.pre hp11
  replace bxo7 := bxo7.pre hp11
  replace bxo9 := bxo9.pre hp11
  replace hoo4 := hoo4.pre hp11
  replace hoo5 := hoo5.pre hp11
  replace hoo7 := hoo7.pre hp11
  replace hoo9 := hoo9.pre hp11
  replace qz0 := qz0.trans hp11
  replace qz1 := qz1.trans hp11
  have hlH11 := hp11.length_le
  obtain ⟨d0a, d0b, d0c⟩ := bx0.sys
  obtain ⟨d1a, d1b, d1c, d1d⟩ := bx1.tr
  obtain ⟨eo7a, eo7b, eo7c⟩ := bxo7.sys
  obtain ⟨eo9a, eo9b, eo9c, eo9d⟩ := bxo9.tr
  try simp (maxSteps := 1000000) [go_sem, hbig0, hbig1, hbih1, hneg0, hneg1, hp4, one0, one1, one_o7, one_o9, sysV, tradeV, two1, two_o9, d0a, d0b, d0c, d1a, d1b, d1c, d1d, eo7a, eo7b, eo7c, eo9a, eo9b, eo9c, eo9d]
  refine AWp.draw mixed [(0, false), (1, false), (2, true), (3, false), (4, false)] (by kernel_rfl) ?_
  try simp (maxSteps := 1000000) [go_sem, hbig0, hbig1, hbih1, hneg0, hneg1, hp4, one0, one1, one_o7, one_o9, sysV, tradeV, two1, two_o9, d0a, d0b, d0c, d1a, d1b, d1c, d1d, eo7a, eo7b, eo7c, eo9a, eo9b, eo9c, eo9d]
  refine toSys_ok (hq0.pre qz0) hl0 _ ?_
  intro H12 wo12 hp12 hoo12
  replace bx0 := bx0.pre hp12
  replace bx1 := bx1.pre hp12
  replace bxo7 := bxo7.pre hp12
  replace bxo9 := bxo9.pre hp12
  replace hoo4 := hoo4.pre hp12
  replace hoo5 := hoo5.pre hp12
  replace hoo7 := hoo7.pre hp12
  replace hoo9 := hoo9.pre hp12
  replace qz0 := qz0.trans hp12
  replace qz1 := qz1.trans hp12
  have hlH12 := hp12.length_le
  obtain ⟨d0a, d0b, d0c⟩ := bx0.sys
  obtain ⟨d1a, d1b, d1c, d1d⟩ := bx1.tr
  obtain ⟨eo7a, eo7b, eo7c⟩ := bxo7.sys
  obtain ⟨eo9a, eo9b, eo9c, eo9d⟩ := bxo9.tr
  try simp (maxSteps := 1000000) [go_sem, hbig0, hbig1, hbih1, hneg0, hneg1, hp12, hp4, one0, one1, one_o7, one_o9, sysV, tradeV, two1, two_o9, d0a, d0b, d0c, d1a, d1b, d1c, d1d, eo7a, eo7b, eo7c, eo9a, eo9b, eo9c, eo9d]
  refine eqSystem_ok hoo7.read hoo12.read _ ?_
  intro H13 hp13
  replace bx0 := bx0.pre hp13
  replace bx1 := bx1.pre hp13
  replace bxo7 := bxo7.pre hp13
  replace bxo9 := bxo9.pre hp13
  replace hoo4 := hoo4.pre hp13
  replace hoo5 := hoo5.pre hp13
  replace hoo7 := hoo7.pre hp13
  replace hoo9 := hoo9.pre hp13
  replace hoo12 := hoo12.pre hp13
  replace qz0 := qz0.trans hp13
  replace qz1 := qz1.trans hp13
  have hlH13 := hp13.length_le
  obtain ⟨d0a, d0b, d0c⟩ := bx0.sys
  obtain ⟨d1a, d1b, d1c, d1d⟩ := bx1.tr
  obtain ⟨eo7a, eo7b, eo7c⟩ := bxo7.sys
  obtain ⟨eo9a, eo9b, eo9c, eo9d⟩ := bxo9.tr
  try simp (maxSteps := 1000000) [go_sem, hbig0, hbig1, hbih1, hneg0, hneg1, hp12, hp4, one0, one1, one_o7, one_o9, sysV, tradeV, two1, two_o9, d0a, d0b, d0c, d1a, d1b, d1c, d1d, eo7a, eo7b, eo7c, eo9a, eo9b, eo9c, eo9d]
  refine AWp.draw mixed [(0, false), (1, false), (2, true), (3, false), (4, false)] (by kernel_rfl) ?_
  try simp (maxSteps := 1000000) [go_sem, hbig0, hbig1, hbih1, hneg0, hneg1, hp12, hp4, one0, one1, one_o7, one_o9, sysV, tradeV, two1, two_o9, d0a, d0b, d0c, d1a, d1b, d1c, d1d, eo7a, eo7b, eo7c, eo9a, eo9b, eo9c, eo9d]
  refine toTr_ok (hq1.pre qz1) hl1 _ ?_
  intro H14 wo14 yo14 hp14 hoo14
  replace bx0 := bx0.pre hp14
  replace bx1 := bx1.pre hp14
  replace bxo7 := bxo7.pre hp14
  replace bxo9 := bxo9.pre hp14
  replace hoo4 := hoo4.pre hp14
  replace hoo5 := hoo5.pre hp14
  replace hoo7 := hoo7.pre hp14
  replace hoo9 := hoo9.pre hp14
  replace hoo12 := hoo12.pre hp14
  replace qz0 := qz0.trans hp14
  replace qz1 := qz1.trans hp14
  have hlH14 := hp14.length_le
  obtain ⟨d0a, d0b, d0c⟩ := bx0.sys
  obtain ⟨d1a, d1b, d1c, d1d⟩ := bx1.tr
  obtain ⟨eo7a, eo7b, eo7c⟩ := bxo7.sys
  obtain ⟨eo9a, eo9b, eo9c, eo9d⟩ := bxo9.tr
  try simp (maxSteps := 1000000) [go_sem, hbig0, hbig1, hbih1, hneg0, hneg1, hp12, hp14, hp4, one0, one1, one_o7, one_o9, sysV, tradeV, two1, two_o9, d0a, d0b, d0c, d1a, d1b, d1c, d1d, eo7a, eo7b, eo7c, eo9a, eo9b, eo9c, eo9d]
  refine eqTrade_ok hoo9.read hoo14.read _ ?_
  intro H15 hp15
  replace bx0 := bx0.pre hp15
  replace bx1 := bx1.pre hp15
  replace bxo7 := bxo7.pre hp15
  replace bxo9 := bxo9.pre hp15
  replace hoo4 := hoo4.pre hp15
  replace hoo5 := hoo5.pre hp15
  replace hoo7 := hoo7.pre hp15
  replace hoo9 := hoo9.pre hp15
  replace hoo12 := hoo12.pre hp15
  replace hoo14 := hoo14.pre hp15
  replace qz0 := qz0.trans hp15
  replace qz1 := qz1.trans hp15
  have hlH15 := hp15.length_le
  obtain ⟨d0a, d0b, d0c⟩ := bx0.sys
  obtain ⟨d1a, d1b, d1c, d1d⟩ := bx1.tr
  obtain ⟨eo7a, eo7b, eo7c⟩ := bxo7.sys
  obtain ⟨eo9a, eo9b, eo9c, eo9d⟩ := bxo9.tr
  try simp (maxSteps := 1000000) [go_sem, hbig0, hbig1, hbih1, hneg0, hneg1, hp12, hp14, hp4, one0, one1, one_o7, one_o9, sysV, tradeV, two1, two_o9, d0a, d0b, d0c, d1a, d1b, d1c, d1d, eo7a, eo7b, eo7c, eo9a, eo9b, eo9c, eo9d]

end Go.Proofs.Ytakkmkinfeddeaa
end
