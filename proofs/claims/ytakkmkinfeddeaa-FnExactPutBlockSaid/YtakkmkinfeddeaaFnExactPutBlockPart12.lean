/- Part 12 of what the proof of the law FnExactPutBlock rests on: contracts of functions of the program, for every argument that each names; no statement of the seat is proved here. -/
import Derived.Test.YtakkmkinfeddeaaFnExactPutBlockPart11

section
/- CarryOut on both sides. -/
set_option linter.all false
set_option maxRecDepth 20000
set_option maxHeartbeats 8000000
namespace Go.Proofs.Ytakkmkinfeddeaa
open Go.Ab Go.Sort

noncomputable def rCarry (p : Int) (bs : List Bk) (q : Int) (o i : List Bk) : (Int × List Bk) × Int :=
  if sysB p bs && tradeB q o i then (if fitsB p bs q o then ((p, sortB (lessB bs o ++ i)), 0) else ((0, []), 5)) else ((0, []), 1)
theorem sortB_len (bs : List Bk) : (sortB bs).length = bs.length := (sortB_perm _ bs rfl).length_eq
theorem rCarry_len (p : Int) (bs : List Bk) (q : Int) (o i : List Bk) : (rCarry p bs q o i).1.2.length ≤ 1048576 := by
  unfold rCarry
  split
  · rename_i h
    simp only [Bool.and_eq_true] at h
    have h1 := (sysB_iff.1 h.1).2.1
    have h2 := (tradeB_sys h.2).2.2.1
    have hlx : (lessB bs o).length ≤ bs.length := List.length_filter_le _ _
    split
    · simp only [sortB_len, List.length_append]; omega
    · simp
  · simp
theorem l04Less_oe' {H : Heap} {u w : Value} {x y : List Bk} (hu : BlocksAt H u x) (hw : BlocksAt H w y) (hl : x.length ≤ 1048576) (Post : Value → Heap → Prop)
    (h : ∀ H' v, H <+: H' → OE 3 H.length H' v (tri (lessB x y)) (lessB x y).length → Post v H') : ACalls Try.prog 137 [u, w] H Post := by
  refine l04Less_oe hu hw hl _ fun H' id hp hid ho => h H' _ hp ⟨ho.1, .inr (.inr ⟨id, hid, rfl, ?_⟩)⟩
  rcases ho.2 with ⟨e, hg⟩ | e
  · exact .inl ⟨e, .inl hg⟩
  · exact .inr e

theorem carriedOut_ok {H : Heap} {u v w : Value} {p q : Int} {bs o i : List Bk} (hu : BlocksAt H u bs) (hlu : bs.length ≤ 1048576) (ht : TradeAt H v w o i) (hl : o.length ≤ 1048576 ∧ i.length ≤ 35) (hb35 : bs.length ≤ 35) (Post : Value → Heap → Prop)
    (h : ∀ H' z, H <+: H' → BlocksIn H.length H'.length H' z (sortB (lessB bs o ++ i)) → Post (sysV p z) H') : ACalls Try.prog 146 [sysV p u, tradeV q v w] H Post := by
  have ou := hu.one
  obtain ⟨ov, ow⟩ := ht.one
  refine acalls_vc (rs := [.cell 4 31]) Try.func146 rfl rfl Try.ntmps146 rfl rfl ?_
  simp (maxSteps := 1000000) [go_sem, sysV, tradeV, ou, ov, ow]
  have hp0 : H <+: H ++ [(⟨[.int .i64 p, u], true, true⟩ : Blk), ⟨[.int .i64 q, v, w], true, true⟩, ⟨[.int .i64 0, .slice none 0 0], true, true⟩] := List.prefix_append _ _
  have hx0 : Holds (H ++ [(⟨[.int .i64 p, u], true, true⟩ : Blk), ⟨[.int .i64 q, v, w], true, true⟩, ⟨[.int .i64 0, .slice none 0 0], true, true⟩]) H.length [.int .i64 p, u] := ⟨true, by simp⟩
  have hy0 : Holds (H ++ [(⟨[.int .i64 p, u], true, true⟩ : Blk), ⟨[.int .i64 q, v, w], true, true⟩, ⟨[.int .i64 0, .slice none 0 0], true, true⟩]) (H.length + 1) [.int .i64 q, v, w] := ⟨true, by simp⟩
  have hb0 : (H ++ [(⟨[.int .i64 p, u], true, true⟩ : Blk), ⟨[.int .i64 q, v, w], true, true⟩, ⟨[.int .i64 0, .slice none 0 0], true, true⟩])[H.length + 2]? = some ⟨[.int .i64 0, .slice none 0 0], true, true⟩ := by simp
  have hlen : (H ++ [(⟨[.int .i64 p, u], true, true⟩ : Blk), ⟨[.int .i64 q, v, w], true, true⟩, ⟨[.int .i64 0, .slice none 0 0], true, true⟩]).length = H.length + 3 := by simp
  generalize H ++ [(⟨[.int .i64 p, u], true, true⟩ : Blk), ⟨[.int .i64 q, v, w], true, true⟩, ⟨[.int .i64 0, .slice none 0 0], true, true⟩] = H0 at hp0 hx0 hy0 hb0 hlen ⊢
  refine AWp.drawX (H.length + 3) mixed [(0, false), (1, false), (2, false), (3, false), (4, false), (5, false), (7, false), (8, false), (6, true), (9, true), (10, false), (11, false)] (by kernel_rfl) ?_
  obtain ⟨d0, d1, d2⟩ := hx0.sys
  obtain ⟨e0, e1, e2, e3⟩ := hy0.tr
  have hu0 := hu.pre hp0
  have ht0 := ht.pre hp0
  simp (maxSteps := 1000000) [go_sem, undef, d0, d1, d2, e0, e1, e2, e3]
  refine less_oe hu0 ht0.1 hlu _ ?_
  intro H4 v4 hp4 hv4
  have hk4 : KeepL (H.length + 3) H0 H4 := KeepL.of_prefix hp4 (by omega)
  obtain ⟨d0, d1, d2⟩ := (hx0.pre hp4).sys
  obtain ⟨e0, e1, e2, e3⟩ := (hy0.pre hp4).tr
  obtain ⟨a4, rfl⟩ := hv4.shape
  have hlx : (lessB bs o).length ≤ bs.length := List.length_filter_le _ _
  have hi4 := ht0.2.pre hp4
  obtain ⟨j, jo, rfl, hat, hil⟩ := hi4
  have hsrc := tri_src hat
  simp only [srcCells, List.length_eq_zero_iff] at hsrc
  have hle4 := hp4.length_le
  obtain ⟨v5, H5, hap, he5, hk5, hl5⟩ := hv4.append (m := i.length) (news := tri i) (by omega) (by omega) (by rw [tri_length])
  obtain ⟨a5, rfl⟩ := he5.shape
  have hp5 : H0 <+: H5 := KeepL.prefix hp4 (Nat.le_refl _) hk5 (by omega)
  have hk5' : KeepL (H.length + 3) H4 H5 := fun k hk => hk5 k (by omega)
  have en : (lessB bs o).length + i.length = (lessB bs o ++ i).length := by simp
  rw [← tri_append, en] at he5
  rw [en] at hap
  simp (maxSteps := 1000000) [go_sem, undef, hk4, d0, d1, d2, e0, e1, e2, e3]
  simp (maxSteps := 1000000) [go_sem, undef, hk4, hsrc, hap, d0, d1, d2, e0, e1, e2, e3]
  refine andK_intro (by omega) (andK_intro hk5' ?_)
  obtain ⟨w5, hup5, hw5⟩ := he5.blocks (by simp; omega)
  rw [← en] at hup5
  refine ACalls.up (args' := [.int .i64 p, w5]) ⟨Up.refl _ _, hup5, trivial⟩ ?_
  refine implSystem_ok hw5.read (by simp; omega) _ ?_
  intro H6 z hp6 hz
  have hk6 : KeepL (H.length + 3) H5 H6 := KeepL.of_prefix hp6 (by omega)
  have az := hz.one
  have hle6 := hp6.length_le
  obtain ⟨q1, q2, q3, q4⟩ := put2 (cs := [.int .i64 p, z]) hp0 (show H.length ≤ H.length + 2 by omega) hb0 rfl (hp5.trans hp6) rfl (by simp [az, one_int])
  have fin := h _ z q3 (by rw [List.length_set]; exact (hz.keep q4 (fun j hj e => by have := hj.1; omega)).wider (by omega))
  simp (maxSteps := 1000000) [go_sem, undef, sysV, hk6, q1, q2]
  exact fin

theorem implCarry_ok {H : Heap} {u v w : Value} {p q : Int} {bs o i : List Bk} (hu : BlocksAt H u bs) (hlu : bs.length ≤ 1048576) (ht : TradeAt H v w o i) (hl : o.length ≤ 1048576 ∧ i.length ≤ 1048576) (Post : Value → Heap → Prop)
    (h : ∀ H' z, H <+: H' → BlocksIn H.length H'.length H' z (rCarry p bs q o i).1.2 → Post (.tuple #[sysV (rCarry p bs q o i).1.1 z, .int .i64 (rCarry p bs q o i).2]) H') : ACalls Try.prog 74 [sysV p u, tradeV q v w] H Post := by
  have ou := hu.one
  obtain ⟨ov, ow⟩ := ht.one
  refine ACalls.res ?_
  refine acalls_vc (rs := [.cell 4 31, .tmp 5]) Try.func74 rfl rfl Try.ntmps74 rfl rfl ?_
  simp (maxSteps := 1000000) [go_sem, sysV, tradeV, ou, ov, ow]
  have hp0 : H <+: H ++ [(⟨[.int .i64 p, u], true, true⟩ : Blk), ⟨[.int .i64 q, v, w], true, true⟩, ⟨[.int .i64 0, .slice none 0 0], true, true⟩] := List.prefix_append _ _
  have hx0 : Holds (H ++ [(⟨[.int .i64 p, u], true, true⟩ : Blk), ⟨[.int .i64 q, v, w], true, true⟩, ⟨[.int .i64 0, .slice none 0 0], true, true⟩]) H.length [.int .i64 p, u] := ⟨true, by simp⟩
  have hy0 : Holds (H ++ [(⟨[.int .i64 p, u], true, true⟩ : Blk), ⟨[.int .i64 q, v, w], true, true⟩, ⟨[.int .i64 0, .slice none 0 0], true, true⟩]) (H.length + 1) [.int .i64 q, v, w] := ⟨true, by simp⟩
  have hb0 : (H ++ [(⟨[.int .i64 p, u], true, true⟩ : Blk), ⟨[.int .i64 q, v, w], true, true⟩, ⟨[.int .i64 0, .slice none 0 0], true, true⟩])[H.length + 2]? = some ⟨[.int .i64 0, .slice none 0 0], true, true⟩ := by simp
  have hlen : (H ++ [(⟨[.int .i64 p, u], true, true⟩ : Blk), ⟨[.int .i64 q, v, w], true, true⟩, ⟨[.int .i64 0, .slice none 0 0], true, true⟩]).length = H.length + 3 := by simp
  generalize H ++ [(⟨[.int .i64 p, u], true, true⟩ : Blk), ⟨[.int .i64 q, v, w], true, true⟩, ⟨[.int .i64 0, .slice none 0 0], true, true⟩] = H0 at hp0 hx0 hy0 hb0 hlen ⊢
  have bad : ∀ (H' : Heap) (c : Int), H0 <+: H' → rCarry p bs q o i = ((0, []), c) →
      storeAt H' (H.length + 2) 0 [.int .i64 0, .slice none 0 0] = some (H'.set (H.length + 2) ⟨[.int .i64 0, .slice none 0 0], true, true⟩) ∧
      cellsAt (H'.set (H.length + 2) ⟨[.int .i64 0, .slice none 0 0], true, true⟩) (H.length + 2) 0 2 = some [.int .i64 0, .slice none 0 0] ∧
      ∃ v', Up (H'.set (H.length + 2) ⟨[.int .i64 0, .slice none 0 0], true, true⟩) (.tuple #[.agg #[.int .i64 0, .slice none 0 0], .int .i64 c]) v' ∧ Post v' (H'.set (H.length + 2) ⟨[.int .i64 0, .slice none 0 0], true, true⟩) := by
    intro H' c hp hr
    obtain ⟨q1, q2, q3, q4⟩ := put2 (cs := [.int .i64 0, .slice none 0 0]) hp0 (show H.length ≤ H.length + 2 by omega) hb0 rfl hp rfl rfl
    have fin := h _ (lv 3 0 0 0) q3 (by rw [hr]; exact BlocksIn.nil _ _ _)
    rw [hr] at fin
    exact ⟨q1, q2, _, Up.tuple (ys := #[sysV 0 (lv 3 0 0 0), .int .i64 c]) ⟨zeroSys, Up.refl _ _, trivial⟩, fin⟩
  refine implIsSys (hu.pre hp0) _ ?_
  intro H1 hp1
  obtain ⟨d0, d1, d2⟩ := (hx0.pre hp1).sys
  obtain ⟨e0, e1, e2, e3⟩ := (hy0.pre hp1).tr
  cases hs : sysB p bs with
  | false =>
    obtain ⟨q1, q2, fin⟩ := bad H1 1 hp1 (by simp [rCarry, hs])
    simp (maxSteps := 1000000) [go_sem, undef, q1, q2]
    exact fin
  | true =>
    simp (maxSteps := 1000000) [go_sem, e0]
    refine implIsTrade (ht.1.pre (hp0.trans hp1)) (ht.2.pre (hp0.trans hp1)) _ ?_
    intro H2 hp2
    have hp12 := hp1.trans hp2
    obtain ⟨d0, d1, d2⟩ := (hx0.pre hp12).sys
    obtain ⟨e0, e1, e2, e3⟩ := (hy0.pre hp12).tr
    cases hs2 : tradeB q o i with
    | false =>
      obtain ⟨q1, q2, fin⟩ := bad H2 1 hp12 (by simp [rCarry, hs, hs2])
      simp (maxSteps := 1000000) [go_sem, undef, q1, q2]
      exact fin
    | true =>
      have hb35 := (sysB_iff.1 hs).2.1
      have hi35 := (tradeB_sys hs2).2.2.1
      simp (maxSteps := 1000000) [go_sem, undef, d0, e0]
      refine implFits_ok (hu.pre (hp0.trans hp12)) (ht.pre (hp0.trans hp12)) hl.1 _ ?_
      intro H3 hp3
      have hp13 := hp12.trans hp3
      have hx3 := hx0.pre hp13
      have hy3 := hy0.pre hp13
      obtain ⟨d0, d1, d2⟩ := hx3.sys
      obtain ⟨e0, e1, e2, e3⟩ := hy3.tr
      have hle3 := hp13.length_le
      cases hf : fitsB p bs q o with
      | false =>
        obtain ⟨q1, q2, fin⟩ := bad H3 5 hp13 (by simp [rCarry, hs, hs2, hf])
        simp (maxSteps := 1000000) [go_sem, undef, q1, q2]
        exact fin
      | true =>
        have hr : rCarry p bs q o i = ((p, sortB (lessB bs o ++ i)), 0) := by simp [rCarry, hs, hs2, hf]
        have hu0 := hu.pre (hp0.trans hp13)
        have ht0 := ht.pre (hp0.trans hp13)
        simp (maxSteps := 1000000) [go_sem, undef]
        simp (maxSteps := 1000000) [go_sem, undef, d0, d1, d2, e0, e1, e2, e3]
        refine carriedOut_ok hu0 hlu ht0 ⟨hl.1, hi35⟩ hb35 _ ?_
        intro H4 z hp4 hz
        have az := hz.one
        obtain ⟨q1, q2, q3, q4⟩ := put2 (cs := [.int .i64 p, z]) hp0 (show H.length ≤ H.length + 2 by omega) hb0 rfl (hp13.trans hp4) rfl (by simp [az, one_int])
        have fin := h _ z q3 (by rw [hr, List.length_set]; exact (hz.keep q4 (fun j hj e => by have := hj.1; omega)).wider (by omega))
        rw [hr] at fin
        simp (maxSteps := 1000000) [go_sem, undef, sysV, q1, q2]
        exact ⟨_, Up.refl _ _, fin⟩

theorem specCarry_ok {H : Heap} {u v w : Value} {p q : Int} {bs o i : List Bk} (hu : BlocksAt H u bs) (hlu : bs.length ≤ 1048576) (ht : TradeAt H v w o i) (hl : o.length ≤ 1048576 ∧ i.length ≤ 1048576) (Post : Value → Heap → Prop)
    (h : ∀ H' z, H <+: H' → BlocksIn H.length H'.length H' z (rCarry p bs q o i).1.2 → Post (.tuple #[sysV (rCarry p bs q o i).1.1 z, .int .i64 (rCarry p bs q o i).2]) H') : ACalls Try.prog 73 [sysV p u, tradeV q v w] H Post := by
  have ou := hu.one
  obtain ⟨ov, ow⟩ := ht.one
  refine ACalls.res ?_
  refine acalls_vc (rs := [.cell 4 31, .tmp 5]) Try.func73 rfl rfl Try.ntmps73 rfl rfl ?_
  simp (maxSteps := 1000000) [go_sem, sysV, tradeV, ou, ov, ow]
  have hp0 : H <+: H ++ [(⟨[.int .i64 p, u], true, true⟩ : Blk), ⟨[.int .i64 q, v, w], true, true⟩, ⟨[.int .i64 0, .slice none 0 0], true, true⟩] := List.prefix_append _ _
  have hx0 : Holds (H ++ [(⟨[.int .i64 p, u], true, true⟩ : Blk), ⟨[.int .i64 q, v, w], true, true⟩, ⟨[.int .i64 0, .slice none 0 0], true, true⟩]) H.length [.int .i64 p, u] := ⟨true, by simp⟩
  have hy0 : Holds (H ++ [(⟨[.int .i64 p, u], true, true⟩ : Blk), ⟨[.int .i64 q, v, w], true, true⟩, ⟨[.int .i64 0, .slice none 0 0], true, true⟩]) (H.length + 1) [.int .i64 q, v, w] := ⟨true, by simp⟩
  have hb0 : (H ++ [(⟨[.int .i64 p, u], true, true⟩ : Blk), ⟨[.int .i64 q, v, w], true, true⟩, ⟨[.int .i64 0, .slice none 0 0], true, true⟩])[H.length + 2]? = some ⟨[.int .i64 0, .slice none 0 0], true, true⟩ := by simp
  have hlen : (H ++ [(⟨[.int .i64 p, u], true, true⟩ : Blk), ⟨[.int .i64 q, v, w], true, true⟩, ⟨[.int .i64 0, .slice none 0 0], true, true⟩]).length = H.length + 3 := by simp
  generalize H ++ [(⟨[.int .i64 p, u], true, true⟩ : Blk), ⟨[.int .i64 q, v, w], true, true⟩, ⟨[.int .i64 0, .slice none 0 0], true, true⟩] = H0 at hp0 hx0 hy0 hb0 hlen ⊢
  have bad : ∀ (H' : Heap) (c : Int), H0 <+: H' → rCarry p bs q o i = ((0, []), c) →
      storeAt H' (H.length + 2) 0 [.int .i64 0, .slice none 0 0] = some (H'.set (H.length + 2) ⟨[.int .i64 0, .slice none 0 0], true, true⟩) ∧
      cellsAt (H'.set (H.length + 2) ⟨[.int .i64 0, .slice none 0 0], true, true⟩) (H.length + 2) 0 2 = some [.int .i64 0, .slice none 0 0] ∧
      ∃ v', Up (H'.set (H.length + 2) ⟨[.int .i64 0, .slice none 0 0], true, true⟩) (.tuple #[.agg #[.int .i64 0, .slice none 0 0], .int .i64 c]) v' ∧ Post v' (H'.set (H.length + 2) ⟨[.int .i64 0, .slice none 0 0], true, true⟩) := by
    intro H' c hp hr
    obtain ⟨q1, q2, q3, q4⟩ := put2 (cs := [.int .i64 0, .slice none 0 0]) hp0 (show H.length ≤ H.length + 2 by omega) hb0 rfl hp rfl rfl
    have fin := h _ (lv 3 0 0 0) q3 (by rw [hr]; exact BlocksIn.nil _ _ _)
    rw [hr] at fin
    exact ⟨q1, q2, _, Up.tuple (ys := #[sysV 0 (lv 3 0 0 0), .int .i64 c]) ⟨zeroSys, Up.refl _ _, trivial⟩, fin⟩
  refine l01Is' (hu.pre hp0) hlu _ ?_
  intro H1 hp1
  obtain ⟨d0, d1, d2⟩ := (hx0.pre hp1).sys
  obtain ⟨e0, e1, e2, e3⟩ := (hy0.pre hp1).tr
  cases hs : sysB p bs with
  | false =>
    obtain ⟨q1, q2, fin⟩ := bad H1 1 hp1 (by simp [rCarry, hs])
    simp (maxSteps := 1000000) [go_sem, undef, q1, q2]
    exact fin
  | true =>
    simp (maxSteps := 1000000) [go_sem, e0]
    refine l04Is_ok (ht.1.pre (hp0.trans hp1)) (ht.2.pre (hp0.trans hp1)) hl.1 hl.2 _ ?_
    intro H2 hp2
    have hp12 := hp1.trans hp2
    obtain ⟨d0, d1, d2⟩ := (hx0.pre hp12).sys
    obtain ⟨e0, e1, e2, e3⟩ := (hy0.pre hp12).tr
    cases hs2 : tradeB q o i with
    | false =>
      obtain ⟨q1, q2, fin⟩ := bad H2 1 hp12 (by simp [rCarry, hs, hs2])
      simp (maxSteps := 1000000) [go_sem, undef, q1, q2]
      exact fin
    | true =>
      have hb35 := (sysB_iff.1 hs).2.1
      have hi35 := (tradeB_sys hs2).2.2.1
      simp (maxSteps := 1000000) [go_sem, undef, d0, e0]
      refine l04Fits_ok (hu.pre (hp0.trans hp12)) (ht.pre (hp0.trans hp12)) hl.1 _ ?_
      intro H3 hp3
      have hp13 := hp12.trans hp3
      have hx3 := hx0.pre hp13
      have hy3 := hy0.pre hp13
      obtain ⟨d0, d1, d2⟩ := hx3.sys
      obtain ⟨e0, e1, e2, e3⟩ := hy3.tr
      have hle3 := hp13.length_le
      cases hf : fitsB p bs q o with
      | false =>
        obtain ⟨q1, q2, fin⟩ := bad H3 5 hp13 (by simp [rCarry, hs, hs2, hf])
        simp (maxSteps := 1000000) [go_sem, undef, q1, q2]
        exact fin
      | true =>
        have hr : rCarry p bs q o i = ((p, sortB (lessB bs o ++ i)), 0) := by simp [rCarry, hs, hs2, hf]
        have hu0 := hu.pre (hp0.trans hp13)
        have ht0 := ht.pre (hp0.trans hp13)
        simp (maxSteps := 1000000) [go_sem, undef]
        refine AWp.drawX (H.length + 3) mixed [(0, false), (1, false), (2, false), (3, false), (4, false), (5, false), (7, false), (8, false), (6, true), (9, true), (10, false), (11, false), (12, false)] (by kernel_rfl) ?_
        simp (maxSteps := 1000000) [go_sem, undef, d0, d1, d2, e0, e1, e2, e3]
        refine l04Less_oe' hu0 ht0.1 hlu _ ?_
        intro H4 v4 hp4 hv4
        have hk4 : KeepL (H.length + 3) H3 H4 := KeepL.of_prefix hp4 (by omega)
        obtain ⟨d0, d1, d2⟩ := (hx3.pre hp4).sys
        obtain ⟨e0, e1, e2, e3⟩ := (hy3.pre hp4).tr
        obtain ⟨a4, rfl⟩ := hv4.shape
        have hlx : (lessB bs o).length ≤ bs.length := List.length_filter_le _ _
        have hi4 := ht0.2.pre hp4
        obtain ⟨j, jo, rfl, hat, hil⟩ := hi4
        have hsrc := tri_src hat
        simp only [srcCells, List.length_eq_zero_iff] at hsrc
        have hle4 := hp4.length_le
        obtain ⟨v5, H5, hap, he5, hk5, hl5⟩ := hv4.append (m := i.length) (news := tri i) (by omega) (by omega) (by rw [tri_length])
        obtain ⟨a5, rfl⟩ := he5.shape
        have hp5 : H3 <+: H5 := KeepL.prefix hp4 (Nat.le_refl _) hk5 (by omega)
        have hk5' : KeepL (H.length + 3) H4 H5 := fun k hk => hk5 k (by omega)
        have en : (lessB bs o).length + i.length = (lessB bs o ++ i).length := by simp
        rw [← tri_append, en] at he5
        rw [en] at hap
        simp (maxSteps := 1000000) [go_sem, undef, hk4, d0, d1, d2, e0, e1, e2, e3]
        simp (maxSteps := 1000000) [go_sem, undef, hk4, hsrc, hap, d0, d1, d2, e0, e1, e2, e3]
        refine andK_intro (by omega) (andK_intro hk5' ?_)
        obtain ⟨w5, hup5, hw5⟩ := he5.blocks (by simp; omega)
        rw [← en] at hup5
        refine ACalls.up (args' := [.int .i64 p, w5]) ⟨Up.refl _ _, hup5, trivial⟩ ?_
        refine l01Made_ok hw5.read (by simp; omega) _ ?_
        intro H6 z hp6 hz
        have hk6 : KeepL (H.length + 3) H5 H6 := KeepL.of_prefix hp6 (by omega)
        have az := hz.one
        have hle6 := hp6.length_le
        obtain ⟨q1, q2, q3, q4⟩ := put2 (cs := [.int .i64 p, z]) hp0 (show H.length ≤ H.length + 2 by omega) hb0 rfl (hp13.trans (hp5.trans hp6)) rfl (by simp [az, one_int])
        have fin := h _ z q3 (by rw [hr, List.length_set]; exact (hz.keep q4 (fun j hj e => by have := hj.1; omega)).wider (by omega))
        rw [hr] at fin
        simp (maxSteps := 1000000) [go_sem, undef, sysV, hk6, q1, q2]
        exact ⟨_, Up.refl _ _, fin⟩

end Go.Proofs.Ytakkmkinfeddeaa
end

section
/- The same with blocks from L on that are this region's own: they may be changed in between. It holds for every program. -/
set_option linter.all false
namespace Go.Ab
open Go.RowKit (Below)

section
variable {P : Program} {N : Nat} {ops : Array Oper} {L : Nat} {K : Fr → Heap → Prop} {fs : List Nat}

/-- With both ways at each effect. -/
def vFX (P : Program) (N : Nat) (ops : Array Oper) (L : Nat) (fs : List Nat) (K : Fr → Heap → Prop) : Nat → List (Nat × Bool) → Fr → Heap → Prop
  | _, [], fr, H => K fr H
  | 0, _ :: _, _, _ => False
  | n + 1, (i, fl) :: l, fr, H => match ops[i]? with
    | none => False
    | some o => match isR o.op with
      | true => offL L o.op fr ∧ vstep P N ops o (vFX P N ops L fs K n l) fr H
      | false => vstep P N ops o (eKX L fl H (vFX P N ops L fs K n l)) fr H ∧
          ∀ f, f ∈ fs → f ∈ l.map (·.1) → ∃ o', ops[f]? = some o' ∧ isR o'.op = false ∧ vstep P N ops o' (eKX L true H (vFX P N ops L fs K n ((i, fl) :: l.filter fun y => y.1 != f))) fr H

theorem eKX_closed {fl : Bool} {H : Heap} {T : Fr → Heap → Prop} (hT : Closed T) : Closed (eKX L fl H T) := by
  intro f g h' hfg hk
  cases fl with
  | true => exact ⟨hk.1, hT _ _ _ hfg hk.2⟩
  | false => exact hT _ _ _ hfg hk
theorem vFX_closed (hK : Closed K) : ∀ n l, Closed (vFX P N ops L fs K n l)
  | 0, [] => hK
  | n + 1, [] => hK
  | 0, _ :: _ => fun _ _ _ _ h => h
  | n + 1, (i, fl) :: l => by
    intro f g H hfg h
    simp only [vFX] at h ⊢
    split at h
    · exact h.elim
    · rename_i o ho
      cases hR : isR o.op with
      | true => simp only [hR] at h ⊢; exact ⟨offL_congr (fun x => feq.ev hfg x) h.1, vstep_closed (vFX_closed hK n l) hfg h.2⟩
      | false =>
        simp only [hR] at h ⊢
        refine ⟨vstep_closed (eKX_closed (vFX_closed hK n l)) hfg h.1, fun f hf hm => ?_⟩
        obtain ⟨o', h1, h2, h3⟩ := h.2 f hf hm
        exact ⟨o', h1, h2, vstep_closed (eKX_closed (vFX_closed hK n _)) hfg h3⟩

/-- Reads one after the other. -/
def seqRX (P : Program) (N : Nat) (ops : Array Oper) (L : Nat) (T : Fr → Heap → Prop) : List (Nat × Bool) → Fr → Heap → Prop
  | [], fr, H => T fr H
  | (j, _) :: l, fr, H => match ops[j]? with
    | none => False
    | some p => offL L p.op fr ∧ vstep P N ops p (seqRX P N ops L T l) fr H
theorem seqRX_closed {T : Fr → Heap → Prop} (hT : Closed T) : ∀ l, Closed (seqRX P N ops L T l)
  | [] => hT
  | (j, fj) :: l => by
    intro f g H hfg h
    simp only [seqRX] at h ⊢
    split at h
    · exact h.elim
    · exact ⟨offL_congr (fun x => feq.ev hfg x) h.1, vstep_closed (seqRX_closed hT l) hfg h.2⟩
theorem vFX_seqRX {n : Nat} {rest : List (Nat × Bool)} : ∀ (l1 : List (Nat × Bool)) (fr : Fr) (H : Heap), (∀ x ∈ l1, ∃ p, ops[x.1]? = some p ∧ isR p.op = true) →
    (vFX P N ops L fs K (l1.length + n) (l1 ++ rest) fr H ↔ seqRX P N ops L (vFX P N ops L fs K n rest) l1 fr H)
  | [], fr, H, _ => by simp [seqRX]
  | (j, fj) :: l1, fr, H, hl => by
    obtain ⟨p, hp, hR⟩ := hl (j, fj) (by simp)
    have ih := fun fr H => vFX_seqRX (n := n) (rest := rest) l1 fr H fun x hx => hl x (by simp [hx])
    rw [show ((j, fj) :: l1).length + n = (l1.length + n) + 1 by simp; omega]
    simp only [List.cons_append, vFX, seqRX, hp, hR]
    exact ⟨fun h => ⟨h.1, vstep_weak h.2 fun f h => (ih f h).1⟩, fun h => ⟨h.1, vstep_weak h.2 fun f h => (ih f h).2⟩⟩

theorem frontX_gen {o : Oper} {fl : Bool} {T T' : Fr → Heap → Prop} (hT : Closed T) (hT' : Closed T') (hstep : ∀ fr H, T fr H → vstep P N ops o (fun f h => relX L o fl H h ∧ T' f h) fr H) : ∀ (l1 : List (Nat × Bool)) (fr : Fr) (H : Heap),
    (∀ x ∈ l1, ∃ p, ops[x.1]? = some p ∧ isR p.op = true ∧ indep ops p o = true ∧ (readsH p.op = true → isR o.op = true ∨ fl = true)) →
    seqRX P N ops L T l1 fr H → vstep P N ops o (fun f h => relX L o fl H h ∧ seqRX P N ops L T' l1 f h) fr H
  | [], fr, H, _, h => hstep fr H h
  | (j, fj) :: l1, fr, H, hl, h => by
    obtain ⟨p, hp, hR, hin, hrd⟩ := hl (j, fj) (by simp)
    simp only [seqRX, hp] at h ⊢
    have hc1 := seqRX_closed (P := P) (N := N) (ops := ops) (L := L) hT l1
    have hc2 := seqRX_closed (P := P) (N := N) (ops := ops) (L := L) hT' l1
    obtain ⟨hoff, h⟩ := h
    obtain ⟨v, h1, h2⟩ := vstep_RX hR hc1 h
    have ih := frontX_gen hT hT' hstep l1 (fr.put p.dst v) H (fun x hx => hl x (by simp [hx])) h1
    obtain ⟨i1, i2, i3⟩ := indep_spec hin
    have hcK : Closed (fun f h => relX L o fl H h ∧ seqRX P N ops L T' l1 f h) := fun f g h hfg hk => ⟨hk.1, hc2 _ _ _ hfg hk.2⟩
    have hag : agreeG ops o (fr.put p.dst v) fr := agreeG.symm (agreeG.put i1)
    refine vstep_weak (vstep_E hcK ih hag) ?_
    rintro f h' ⟨u, hf, hrel, hv⟩
    have hvE : vstep P N ops p (seqRX P N ops L T' l1) (fr.put o.dst u) h' := by
      refine h2 (fr.put o.dst u) h' _ hc2 (agreeG.put i2) (fun i hi b hb => ?_) ?_
      · rw [hrel (hrd (by cases hr : readsH p.op with | true => rfl | false => rw [rdBlk_none hr] at hi; cases hi)) i (hoff i hi), hb]
      exact hc2 _ _ _ (put_comm fr i3 v u) hv
    exact ⟨hrel, offL_congr (fun x => feq.ev hf x) (offL_agree (agreeG.put i2).agree hoff), vstep_closed hc2 hf hvE⟩

theorem eKX_rel {o : Oper} {fl : Bool} {T : Fr → Heap → Prop} {fr : Fr} {H : Heap} (hR : isR o.op = false) (h : vstep P N ops o (eKX L fl H T) fr H) : vstep P N ops o (fun f h => relX L o fl H h ∧ T f h) fr H := by
  refine vstep_weak h ?_
  intro f h' hk
  cases fl with
  | true => exact ⟨fun _ => hk.1, hk.2⟩
  | false => exact ⟨fun e => by simp [hR] at e, hk⟩

/-- What is behind reads only comes first. -/
theorem vFX_front (hK : Closed K) {n i : Nat} {fl : Bool} {l1 l2 : List (Nat × Bool)} {o : Oper} (ho : ops[i]? = some o) {fr : Fr} {H : Heap}
    (hl1 : ∀ x ∈ l1, ∃ p, ops[x.1]? = some p ∧ isR p.op = true ∧ indep ops p o = true ∧ (readsH p.op = true → isR o.op = true ∨ fl = true))
    (h : vFX P N ops L fs K (l1.length + (n + 1)) (l1 ++ (i, fl) :: l2) fr H) : vstep P N ops o (fun f h => relX L o fl H h ∧ vFX P N ops L fs K (l1.length + n) (l1 ++ l2) f h) fr H := by
  have hl1' : ∀ x ∈ l1, ∃ p, ops[x.1]? = some p ∧ isR p.op = true := fun x hx => by obtain ⟨p, h1, h2, _⟩ := hl1 x hx; exact ⟨p, h1, h2⟩
  rw [vFX_seqRX l1 fr H hl1'] at h
  have hstep : ∀ fr H, vFX P N ops L fs K (n + 1) ((i, fl) :: l2) fr H → vstep P N ops o (fun f h => relX L o fl H h ∧ vFX P N ops L fs K n l2 f h) fr H := by
    intro fr H h
    simp only [vFX, ho] at h
    cases hR : isR o.op with
    | true =>
      simp only [hR] at h
      obtain ⟨_, h⟩ := h
      obtain ⟨v, h1, h2⟩ := vstep_RX hR (vFX_closed hK n l2) h
      refine h2 fr H _ ?_ (fun _ _ => rfl) (fun _ _ _ h => h) ⟨fun _ _ _ => rfl, h1⟩
      intro f g h hfg hk
      exact ⟨hk.1, vFX_closed hK n l2 _ _ _ hfg hk.2⟩
    | false => simp only [hR] at h; exact eKX_rel hR h.1
  refine vstep_weak (frontX_gen (vFX_closed hK _ _) (vFX_closed hK n l2) hstep l1 fr H hl1 h) ?_
  rintro f h' ⟨h1, h2⟩
  exact ⟨h1, (vFX_seqRX l1 f h' hl1').2 h2⟩
/-- What hangs on nothing comes ahead of the first effect. -/
theorem vFX_float (hK : Closed K) {n i f : Nat} {fl : Bool} {r1 l2 : List (Nat × Bool)} {o o' : Oper} (ho : ops[i]? = some o) (hE : isR o.op = false) (hf : ops[f]? = some o') (hff : f ∈ fs) (hfl : f ∈ l2.map (·.1)) {fr : Fr} {H : Heap}
    (hl1 : ∀ x ∈ r1, ∃ p, ops[x.1]? = some p ∧ isR p.op = true ∧ indep ops p o' = true)
    (h : vFX P N ops L fs K (r1.length + (n + 1)) (r1 ++ (i, fl) :: l2) fr H) : vstep P N ops o' (fun f' h => relX L o' true H h ∧ vFX P N ops L fs K (r1.length + n) (r1 ++ (i, fl) :: l2.filter fun y => y.1 != f) f' h) fr H := by
  have hl1' : ∀ x ∈ r1, ∃ p, ops[x.1]? = some p ∧ isR p.op = true := fun x hx => by obtain ⟨p, h1, h2, _⟩ := hl1 x hx; exact ⟨p, h1, h2⟩
  rw [vFX_seqRX r1 fr H hl1'] at h
  have hstep : ∀ fr H, vFX P N ops L fs K (n + 1) ((i, fl) :: l2) fr H → vstep P N ops o' (fun f' h => relX L o' true H h ∧ vFX P N ops L fs K n ((i, fl) :: l2.filter fun y => y.1 != f) f' h) fr H := by
    intro fr H h
    simp only [vFX, ho, hE] at h
    obtain ⟨o2, h1, h2, h3⟩ := h.2 f hff hfl
    rw [hf] at h1; cases h1
    exact eKX_rel h2 h3
  refine vstep_weak (frontX_gen (vFX_closed hK _ _) (vFX_closed hK n _) hstep r1 fr H (fun x hx => by obtain ⟨p, h1, h2, h3⟩ := hl1 x hx; exact ⟨p, h1, h2, h3, fun _ => .inr rfl⟩) h) ?_
  rintro f h' ⟨h1, h2⟩
  exact ⟨h1, (vFX_seqRX r1 f h' hl1').2 h2⟩

theorem drawFX_any {B : Nat} {w0 : World} {Q : Exit → Act → World → Prop} (hK : Closed K) (hedge : edgesOK ops = true) : ∀ (n : Nat) (listed : Array Bool) (l : List (Nat × Bool)) (fr : Fr) (H : Heap) (ρ : Rho) (w : World) (a : Act),
    listed.size = ops.size → l.length = n → pairsOKF ops fs (masksGo ops.toList []) l = true → (∀ x ∈ l, x.1 < ops.size ∧ listed.getD x.1 true = false) → (∀ i, i < ops.size → listed.getD i true = false → ∃ x ∈ l, x.1 = i) →
    (∀ (j : Nat) (o : Oper), ops[j]? = some o → listed.getD j false = true → ∀ e ∈ o.after.toList, Region.binds .any e = true → listed.getD e.on false = true) →
    vFX P N ops L fs K n l fr H → R B w0 ρ H w → FR N ρ fr a →
    (∀ (ρ' : Rho) (fr' : Fr) (H' : Heap) (a' : Act) (w' : World), ρ <+: ρ' → K fr' H' → R B w0 ρ' H' w' → FR N ρ' fr' a' → Q .normal a' w') → wpAny P .any ops Q n listed a w := by
  intro n
  have getD2 : ∀ (listed : Array Bool) (i : Nat), listed.size = ops.size → i < ops.size → listed.getD i true = listed.getD i false := by
    intro listed i h1 h2
    simp [Array.getD_eq_getD_getElem?, h1, h2]
  induction n with
  | zero =>
    intro listed l fr H ρ w a hsz hl hp hin hall hcl hv hR hF hq
    have : l = [] := List.eq_nil_of_length_eq_zero hl
    subst this
    refine ⟨?_, hq ρ fr H a w (List.prefix_refl _) hv hR hF⟩
    rw [List.eq_nil_iff_forall_not_mem]
    intro i hi
    simp only [Region.ready, List.mem_filter, List.mem_range, Bool.and_eq_true, Bool.not_eq_true'] at hi
    obtain ⟨x, hx, _⟩ := hall i hi.1 hi.2.1
    simp at hx
  | succ n ih =>
    intro listed l fr H ρ w a hsz hl hp hin hall hcl hv hR hF hq
    refine ⟨?_, ?_⟩
    · intro hnil
      exfalso
      match l, hl with
      | (i, fl) :: l, hl =>
        obtain ⟨h1, h2⟩ := hin (i, fl) (by simp)
        have hi : i ∈ Region.ready .any ops listed := by
          simp only [Region.ready, List.mem_filter, List.mem_range, Bool.and_eq_true, Bool.not_eq_true']
          refine ⟨h1, h2, ?_⟩
          rw [Array.getElem?_eq_getElem h1]
          simp only [Option.map_some, Option.getD_some, Array.all_eq_true']
          intro e he
          rw [Bool.or_eq_true, Bool.not_eq_true']
          by_cases hb : Region.binds .any e = true
          · right
            have hedge' := List.all_eq_true.1 hedge i (by simpa using h1)
            simp only [Array.getElem?_eq_getElem h1, List.all_eq_true] at hedge'
            have he' := hedge' e (by simpa using he)
            simp only [hb, Bool.not_true, Bool.false_or, Bool.and_eq_true, decide_eq_true_eq, bne_iff_ne, ne_eq] at he'
            rw [← getD2 listed e.on hsz he'.1]
            cases hg : listed.getD e.on true with
            | true => rfl
            | false =>
              obtain ⟨x, hx, hxe⟩ := hall e.on he'.1 hg
              rcases List.mem_cons.1 hx with rfl | hx
              · exact absurd hxe.symm he'.2
              · have hpo := (pairsOKF_spec (l1 := []) hp).2.1 x hx
                have hx1 := (hin x (by simp [hx])).1
                simp only [pairOKF, Array.getElem?_eq_getElem h1, Array.getElem?_eq_getElem hx1, Bool.and_eq_true, Bool.not_eq_true'] at hpo
                have hd := hpo.1.1
                simp only [directTo, List.any_eq_false, Bool.and_eq_true, beq_iff_eq, not_and] at hd
                exact absurd hxe.symm (hd e (by simpa using he) hb)
          · left; simpa using hb
        rw [hnil] at hi
        simp at hi
    · intro i hi
      simp only [Region.ready, List.mem_filter, List.mem_range, Bool.and_eq_true, Bool.not_eq_true'] at hi
      obtain ⟨hilt, hnl, hrdy⟩ := hi
      rw [Array.getElem?_eq_getElem hilt] at hrdy
      simp only [Option.map_some, Option.getD_some, Array.all_eq_true'] at hrdy
      have ho : ops[i]? = some ops[i] := Array.getElem?_eq_getElem hilt
      obtain ⟨x, hx, hxi⟩ := hall i hilt hnl
      obtain ⟨l1, l2, rfl⟩ := List.append_of_mem hx
      obtain ⟨i', fl⟩ := x
      simp only at hxi
      subst hxi
      obtain ⟨hp1, hp2, hp3⟩ := pairsOKF_spec hp
      have hpre : ∀ e ∈ (ops[i']).after.toList, Region.binds .any e = true → listed.getD e.on false = true := by
        intro e he hb
        have := hrdy e (by simpa using he)
        simpa [hb] using this
      have hdep : ∀ y ∈ l1, ¬ ((masksGo ops.toList []).getD i' 0).testBit y.1 = true := by
        intro y hy hb
        have := masks_sound (ops := ops) (fun j => listed.getD j false = true) hcl ops.toList [] (fun j _ => by simp) (fun j o p hj => by simp at hj) i' _ y.1 ho hb hpre
        obtain ⟨hy1, hy2⟩ := hin y (by simp [hy])
        rw [getD2 listed y.1 hsz hy1] at hy2
        rw [hy2] at this; cases this
      have hR1 : ∀ y ∈ l1, ∀ p, ops[y.1]? = some p → isR p.op = true → indep ops p ops[i'] = true ∧ (readsH p.op = true → isR (ops[i']).op = true ∨ fl = true) := by
        intro y hy p hp' hRp
        have hy1 := (hin y (by simp [hy])).1
        have hpo := hp1 y hy
        have hd := hdep y hy
        simp only [pairOKF, hp', ho, Bool.and_eq_true] at hpo
        have hpo2 := hpo.2
        simp only [Bool.not_eq_true] at hd
        simp only [hRp, hd, Bool.false_or, Bool.or_false, Bool.and_eq_true, Bool.or_eq_true, Bool.not_eq_true'] at hpo2
        refine ⟨hpo2.1, fun hr => ?_⟩
        rcases hpo2.2 with (h | h) | h
        · exact .inl h
        · exact .inr h
        · rw [hr] at h; cases h
      have hE1 : ∀ y ∈ l1, ∀ p, ops[y.1]? = some p → isR p.op = false → i' ∈ fs ∧ fl = true ∧ isR (ops[i']).op = false := by
        intro y hy p hp' hRp
        have hpo := hp1 y hy
        have hd := hdep y hy
        simp only [pairOKF, hp', ho, Bool.and_eq_true] at hpo
        have hpo2 := hpo.2
        simp only [Bool.not_eq_true] at hd
        simp only [hRp, hd, Bool.false_or, Bool.and_eq_true, Bool.not_eq_true', List.contains_iff_mem] at hpo2
        exact ⟨hpo2.1.1, hpo2.1.2, hpo2.2⟩
      have hnd : ∀ y ∈ l1 ++ l2, y.1 ≠ i' := by
        intro y hy e
        rcases List.mem_append.1 hy with hy | hy
        · have hpo := hp1 y hy
          have hy1 := (hin y (by simp [hy])).1
          simp [pairOKF, Array.getElem?_eq_getElem hy1, ho, e] at hpo
        · have hpo := hp2 y hy
          have hy1 := (hin y (by simp [hy])).1
          simp [pairOKF, Array.getElem?_eq_getElem hy1, ho, e] at hpo
      have hstep : vstep P N ops ops[i'] (fun f h => relX L ops[i'] fl H h ∧ vFX P N ops L fs K n (l1 ++ l2) f h) fr H := by
        simp only [List.length_append, List.length_cons] at hl
        rcases first_effect (ops := ops) l1 (fun x hx => ⟨_, Array.getElem?_eq_getElem (hin x (by simp [hx])).1⟩) with hall1 | ⟨r1, e, oe, r2, rfl, he1, he2, he3⟩
        · rw [show n = l1.length + l2.length by omega]
          rw [show n + 1 = l1.length + (l2.length + 1) by omega] at hv
          exact vFX_front hK ho (fun x hx => by obtain ⟨p, h1, h2⟩ := hall1 x hx; obtain ⟨h3, h4⟩ := hR1 x hx p h1 h2; exact ⟨p, h1, h2, h3, h4⟩) hv
        · obtain ⟨hif, hfl, hEi⟩ := hE1 e (by simp) oe he1 he2
          subst hfl
          simp only [List.length_append, List.length_cons] at hl
          rw [show n + 1 = r1.length + ((r2.length + 1 + l2.length) + 1) by omega, List.append_assoc, List.cons_append] at hv
          have hfilt : (r2 ++ (i', true) :: l2).filter (fun y => y.1 != i') = r2 ++ l2 := by
            rw [List.filter_append, List.filter_cons]
            simp only [bne_self_eq_false, Bool.false_eq_true, if_false]
            rw [List.filter_eq_self.2, List.filter_eq_self.2]
            · intro y hy; simpa using hnd y (by simp [hy])
            · intro y hy; simpa using hnd y (by simp [hy])
          have := vFX_float (f := i') hK he1 he2 ho hif (by simp) (fun x hx => by
            obtain ⟨p, h1, h2⟩ := he3 x hx
            exact ⟨p, h1, h2, (hR1 x (by simp [hx]) p h1 h2).1⟩) hv
          rw [hfilt] at this
          rw [show n = r1.length + (r2.length + 1 + l2.length) by omega, List.append_assoc, List.cons_append]
          exact this
      unfold wpOp
      rw [ho]
      refine vstep_sound hstep hR hF Q ?_
      rintro ρ' fr' H' a' w' hpre' ⟨_, hv'⟩ hR' hF'
      refine ih (listed.setIfInBounds i' true) (l1 ++ l2) fr' H' ρ' w' a' (by simpa using hsz) (by simp at hl ⊢; omega) hp3 ?_ ?_ ?_ hv' hR' hF' (fun ρ'' f'' H'' a'' w'' h1 => hq ρ'' f'' H'' a'' w'' (hpre'.trans h1))
      · intro y hy
        have hne := hnd y hy
        obtain ⟨h1, h2⟩ := hin y (by rcases List.mem_append.1 hy with hy | hy <;> simp [hy])
        exact ⟨h1, by rw [getD_set_ne _ (fun e => hne e.symm)]; exact h2⟩
      · intro j hj hnj
        by_cases e : i' = j
        · subst e
          exfalso
          have : (listed.setIfInBounds i' true).getD i' true = true := by simp [Array.getD_eq_getD_getElem?]
          rw [this] at hnj; cases hnj
        · rw [getD_set_ne _ e] at hnj
          obtain ⟨y, hy, rfl⟩ := hall j hj hnj
          refine ⟨y, ?_, rfl⟩
          rcases List.mem_append.1 hy with hy | hy
          · simp [hy]
          · rcases List.mem_cons.1 hy with rfl | hy
            · exact absurd rfl e
            · simp [hy]
      · intro j o hj hlj e he hb
        by_cases e' : i' = j
        · subst e'
          rw [ho] at hj; cases hj
          exact getD_set_true (hpre e he hb)
        · rw [getD_set_ne _ e'] at hlj
          exact getD_set_true (hcl j o hj hlj e he hb)

def vTX (P : Program) (N : Nat) (ops : Array Oper) (L : Nat) (K : Fr → Heap → Prop) : Tree → Fr → Heap → Prop
  | .nil, fr, H => K fr H
  | .one i fl t, fr, H => match ops[i]? with
    | none => False
    | some o => match isR o.op with
      | true => offL L o.op fr ∧ vstep P N ops o (vTX P N ops L K t) fr H
      | false => vstep P N ops o (eKX L fl H (vTX P N ops L K t)) fr H
  | .two i fl t f t', fr, H => match ops[i]?, ops[f]? with
    | some o, some o' => vstep P N ops o (eKX L fl H (vTX P N ops L K t)) fr H ∧ vstep P N ops o' (eKX L true H (vTX P N ops L K t')) fr H
    | _, _ => False
theorem vTX_vFX : ∀ (t : Tree) (n : Nat) (l : List (Nat × Bool)) (fr : Fr) (H : Heap), l.length ≤ n → (∀ x y, x ∈ l → y ∈ l → x.1 = y.1 → x = y) → treeOK ops fs t l = true → vTX P N ops L K t fr H → vFX P N ops L fs K n l fr H := by
  intro t
  induction t with
  | nil =>
    intro n l fr H hn _ hok h
    cases l with
    | nil => cases n <;> exact h
    | cons x l => simp [treeOK] at hok
  | one i fl t ih =>
    intro n l fr H hn hu hok h
    cases l with
    | nil => simp [treeOK] at hok
    | cons x l =>
      obtain ⟨j, fl'⟩ := x
      simp only [treeOK, Bool.and_eq_true, beq_iff_eq] at hok
      obtain ⟨⟨⟨rfl, rfl⟩, hfl⟩, hok⟩ := hok
      cases n with
      | zero => simp at hn
      | succ n =>
        simp only [List.length_cons] at hn
        have hu' : ∀ x y, x ∈ l → y ∈ l → x.1 = y.1 → x = y := fun x y hx hy => hu x y (by simp [hx]) (by simp [hy])
        simp only [vTX] at h
        simp only [vFX]
        cases ho : ops[i]? with
        | none => simp [ho] at h
        | some o =>
          simp only [ho] at h hfl ⊢
          cases hR : isR o.op with
          | true => simp only [hR] at h ⊢; exact ⟨h.1, vstep_weak h.2 fun f h => ih n l f h (by omega) hu' hok⟩
          | false =>
            simp only [hR, Bool.false_or, List.all_eq_true] at h hfl ⊢
            refine ⟨vstep_weak h fun f h' hk => ?_, fun f hf hm => ?_⟩
            · cases fl with
              | true => exact ⟨hk.1, ih n l f h' (by omega) hu' hok hk.2⟩
              | false => exact ih n l f h' (by omega) hu' hok hk
            · have := hfl f hf
              simp only [Bool.not_eq_true', List.contains_eq_mem, decide_eq_false_iff_not] at this
              exact absurd hm this
  | two i fl t f t' ih ih' =>
    intro n l fr H hn hu hok h
    cases l with
    | nil => simp [treeOK] at hok
    | cons x l =>
      obtain ⟨j, fl'⟩ := x
      simp only [treeOK, Bool.and_eq_true, beq_iff_eq] at hok
      obtain ⟨⟨⟨⟨⟨rfl, rfl⟩, hE⟩, hfl⟩, hok⟩, hok'⟩ := hok
      cases n with
      | zero => simp at hn
      | succ n =>
        simp only [List.length_cons] at hn
        have hu' : ∀ x y, x ∈ l → y ∈ l → x.1 = y.1 → x = y := fun x y hx hy => hu x y (by simp [hx]) (by simp [hy])
        simp only [vTX] at h
        simp only [vFX]
        cases ho : ops[i]? with
        | none => simp [ho] at h
        | some o =>
          cases ho' : ops[f]? with
          | none => simp [ho, ho'] at h
          | some o' =>
            simp only [ho, ho', Bool.and_eq_true, Bool.not_eq_true'] at h hE ⊢
            simp only [hE.1]
            refine ⟨vstep_weak h.1 fun g h' hk => ?_, fun g hg hm => ?_⟩
            · cases fl with
              | true => exact ⟨hk.1, ih n l g h' (by omega) hu' hok hk.2⟩
              | false => exact ih n l g h' (by omega) hu' hok hk
            · rw [List.all_eq_true] at hfl
              have hgf := hfl g hg
              simp only [Bool.or_eq_true, beq_iff_eq, Bool.not_eq_true', List.contains_eq_mem, decide_eq_false_iff_not] at hgf
              have : g = f := hgf.resolve_right (fun e => e hm)
              subst this
              refine ⟨o', ho', hE.2, vstep_weak h.2 fun q h' hk => ⟨hk.1, ih' n _ q h' ?_ ?_ hok' hk.2⟩⟩
              · obtain ⟨z, hz, hzg⟩ := List.mem_map.1 hm
                have : (l.filter fun y => y.1 != g).length < l.length := by
                  rw [List.length_filter_lt_length_iff_exists]
                  exact ⟨z, hz, by simp [hzg]⟩
                simp only [List.length_cons]; omega
              · intro x y hx hy
                refine hu x y ?_ ?_
                · rcases List.mem_cons.1 hx with rfl | hx
                  · simp
                  · exact List.mem_cons_of_mem _ (List.mem_filter.1 hx).1
                · rcases List.mem_cons.1 hy with rfl | hy
                  · simp
                  · exact List.mem_cons_of_mem _ (List.mem_filter.1 hy).1

theorem AWp.drawFX (L : Nat) {id : Nat} {fr : Fr} {H : Heap} {Q : Exit → Fr → Heap → Prop} (hm : P.follows .mixedOrders = true) (fs : List Nat) (canon : List (Nat × Bool)) (t : Tree) (hok : (drawOKF ops fs canon && treeOK ops fs t canon) = true) (h : vTX P N ops L (Q .normal) t fr H) : AWp P N (.region id ops true) Q fr H := by
  intro B w0 ρ w a hR hF
  simp only [drawOKF, Bool.and_eq_true, decide_eq_true_eq, List.all_eq_true, List.mem_range, List.contains_iff_mem, List.mem_map] at hok
  obtain ⟨⟨⟨⟨⟨h1, h2⟩, h3⟩, h4⟩, h5⟩, h6⟩ := hok
  refine wp_region_any hm ?_
  let K : Fr → Heap → Prop := fun f h => ∃ g, feq g f ∧ Q .normal g h
  have hK : Closed K := fun f g h hfg ⟨k, hk, hq⟩ => ⟨k, hk.trans hfg, hq⟩
  have hu : ∀ x y, x ∈ canon → y ∈ canon → x.1 = y.1 → x = y := by
    intro x y hx hy e
    obtain ⟨l1, l2, rfl⟩ := List.append_of_mem hx
    obtain ⟨hp1, hp2, _⟩ := pairsOKF_spec h1
    rcases List.mem_append.1 hy with hy | hy
    · have := hp1 y hy
      unfold pairOKF at this
      split at this
      · simp [e] at this
      · cases this
    · rcases List.mem_cons.1 hy with rfl | hy
      · rfl
      · have := hp2 y hy
        unfold pairOKF at this
        split at this
        · simp [e] at this
        · cases this
  have hv : vFX P N ops L fs K ops.size canon fr H := by
    refine vTX_vFX t ops.size canon fr H (by omega) hu h6 ?_
    have weak : ∀ (t : Tree) (fr : Fr) (H : Heap), vTX P N ops L (Q .normal) t fr H → vTX P N ops L K t fr H := by
      intro t
      induction t with
      | nil => exact fun fr H h => ⟨fr, feq.rfl' _, h⟩
      | one i fl t ih =>
        intro fr H h
        simp only [vTX] at h ⊢
        split at h
        · exact h
        · rename_i o ho
          cases hR : isR o.op with
          | true => simp only [hR] at h ⊢; exact ⟨h.1, vstep_weak h.2 ih⟩
          | false =>
            simp only [hR] at h ⊢
            refine vstep_weak h ?_
            intro f h' hk
            cases fl with
            | true => exact ⟨hk.1, ih _ _ hk.2⟩
            | false => exact ih _ _ hk
      | two i fl t f t' ih ih' =>
        intro fr H h
        simp only [vTX] at h ⊢
        split at h
        · rename_i o o' ho ho'
          refine ⟨vstep_weak h.1 ?_, vstep_weak h.2 fun f h' hk => ⟨hk.1, ih' _ _ hk.2⟩⟩
          intro f h' hk
          cases fl with
          | true => exact ⟨hk.1, ih _ _ hk.2⟩
          | false => exact ih _ _ hk
        · exact h
    exact weak t fr H h
  have hgt : ∀ i, i < ops.size → (Array.replicate ops.size false).getD i true = false := by
    intro i hi
    simp [Array.getD_eq_getD_getElem?, hi]
  refine drawFX_any (B := B) (w0 := w0) hK h2 ops.size (Array.replicate ops.size false) canon fr H ρ w.drew a (by simp) h3 h1 ?_ ?_ ?_ hv hR.drew hF ?_
  · intro x hx
    exact ⟨h4 x hx, hgt x.1 (h4 x hx)⟩
  · intro i hi _
    obtain ⟨x, hx, rfl⟩ := h5 i hi
    exact ⟨x, hx, rfl⟩
  · intro j o hj hl
    rw [Array.getD_eq_getD_getElem?, Array.getElem?_replicate] at hl
    split at hl <;> simp at hl
  · rintro ρ' fr' H' a' w' hp ⟨g, hg, hq⟩ hR' hF'
    exact ⟨ρ', g, H', hp, hR', hF'.feq hg.symm, hq⟩

/-! The words of such a tree, for simp. -/

def vTXK (P : Program) (N : Nat) (ops : Array Oper) (L : Nat) (K : Fr → Heap → Prop) (t : Tree) (fr : Fr) (H : Heap) : Prop := vTX P N ops L K t fr H
def eTXK (P : Program) (N : Nat) (ops : Array Oper) (L : Nat) (K : Fr → Heap → Prop) (t : Tree) (fl : Bool) (H : Heap) (fr : Fr) (H' : Heap) : Prop :=
  match fl with
  | true => andK (KeepL L H H') (vTX P N ops L K t fr H')
  | false => vTX P N ops L K t fr H'
def vTXo (P : Program) (N : Nat) (ops : Array Oper) (L : Nat) (K : Fr → Heap → Prop) (t : Tree) (fl : Bool) (fr : Fr) (H : Heap) (o : Oper) : Prop :=
  match isR o.op with
  | true => andK (offB L o.op fr) (vstep P N ops o (vTXK P N ops L K t) fr H)
  | false => vstep P N ops o (eTXK P N ops L K t fl H) fr H
def vTXe (P : Program) (N : Nat) (ops : Array Oper) (L : Nat) (K : Fr → Heap → Prop) (t : Tree) (fl : Bool) (fr : Fr) (H : Heap) (o : Oper) : Prop := vstep P N ops o (eTXK P N ops L K t fl H) fr H

theorem vTX_nil (K : Fr → Heap → Prop) (fr : Fr) (H : Heap) : vTX P N ops L K .nil fr H = K fr H := rfl
theorem eTXK_eq (K : Fr → Heap → Prop) (t : Tree) (fl : Bool) (H : Heap) : eKX L fl H (vTX P N ops L K t) = eTXK P N ops L K t fl H := by
  funext f h
  cases fl <;> rfl
theorem vTX_one (K : Fr → Heap → Prop) (i : Nat) (fl : Bool) (t : Tree) (fr : Fr) (H : Heap) : vTX P N ops L K (.one i fl t) fr H = bindO ops[i]? (vTXo P N ops L K t fl fr H) := by
  simp only [vTX]
  cases ops[i]? with
  | none => simp [bindO]
  | some o =>
    simp only [bindO_some, vTXo]
    cases isR o.op with
    | true => rw [offB_iff]; rfl
    | false => simp only [eTXK_eq]
theorem vTX_two {i : Nat} {fl : Bool} {t : Tree} {f : Nat} {t' : Tree} {K : Fr → Heap → Prop} {fr : Fr} {H : Heap} (h1 : bindO ops[i]? (vTXe P N ops L K t fl fr H)) (h2 : bindO ops[f]? (vTXe P N ops L K t' true fr H)) : vTX P N ops L K (.two i fl t f t') fr H := by
  simp only [vTX]
  cases ho : ops[i]? with
  | none => simp [ho, bindO] at h1
  | some o =>
    cases ho' : ops[f]? with
    | none => simp [ho', bindO] at h2
    | some o' =>
      simp only [ho, ho', bindO_some, vTXe] at h1 h2 ⊢
      exact ⟨by rw [eTXK_eq]; exact h1, by rw [eTXK_eq]; exact h2⟩

attribute [go_sem] vTXK eTXK vTXo vTXe vTX_nil vTX_one

end
end Go.Ab
end

section
/- PutBlock on both sides. -/
set_option linter.all false
set_option maxRecDepth 20000
set_option maxHeartbeats 8000000
namespace Go.Proofs.Ytakkmkinfeddeaa
open Go.Ab Go.Sort

noncomputable def rPut (p : Int) (bs : List Bk) (b : Bk) : (Int × List Bk) × Int :=
  if sysB p bs then (if good p b then (if leftB bs b then ((p, sortB (bs ++ [b])), 0) else ((0, []), 5)) else ((0, []), 2)) else ((0, []), 1)
theorem rPut_len (p : Int) (bs : List Bk) (b : Bk) : (rPut p bs b).1.2.length ≤ 1048576 := by
  unfold rPut
  split
  · rename_i h
    have h1 := (sysB_iff.1 h).2.1
    split
    · split
      · simp only [sortB_len, List.length_append, List.length_singleton]; omega
      · simp
    · simp
  · simp

theorem isLeftB_ok {H : Heap} {id : Nat} {gs : List Int} {bs : List Bk} {b : Bk} {p : Int} (hg : GridAt H id gs) (hgo : GridOf gs bs) (hb : good p b = true) (hp : p ≤ 15) (Post : Value → Heap → Prop) (h : ∀ H', H <+: H' → Post (.bool (leftB bs b)) H') :
    ACalls Try.prog 130 [.pointer (some ⟨id, 0, none⟩), b.val] H Post := by
  have hgd : 0 ≤ b.a ∧ b.a < b.b ∧ b.b < b.c ∧ b.c < p := by simpa [good, and_assoc] using hb
  obtain ⟨x, y, z⟩ := b
  simp only at hgd
  obtain ⟨a, rfl⟩ : ∃ n : Nat, x = n := ⟨x.toNat, by omega⟩
  obtain ⟨c, rfl⟩ : ∃ n : Nat, y = n := ⟨y.toNat, by omega⟩
  obtain ⟨d, rfl⟩ : ∃ n : Nat, z = n := ⟨z.toNat, by omega⟩
  refine isLeft_ok hg (by omega) (by omega) (by omega) _ ?_
  intro H' hp'
  have := h H' hp'
  have e1 := hgo.2 a c (by omega) (by omega)
  have e2 := hgo.2 a d (by omega) (by omega)
  have e3 := hgo.2 c d (by omega) (by omega)
  rw [if_neg (by omega)] at e1 e2 e3
  rw [e1, e2, e3]
  exact this

theorem implPut_ok {H : Heap} {u : Value} {p : Int} {bs : List Bk} {b : Bk} (hu : BlocksAt H u bs) (hl : bs.length ≤ 1048576) (hn : In64 b.a ∧ In64 b.b ∧ In64 b.c) (Post : Value → Heap → Prop)
    (h : ∀ H' z, H <+: H' → BlocksIn H.length H'.length H' z (rPut p bs b).1.2 → Post (.tuple #[sysV (rPut p bs b).1.1 z, .int .i64 (rPut p bs b).2]) H') : ACalls Try.prog 56 [sysV p u, b.val] H Post := by
  have ou := hu.one
  refine ACalls.res ?_
  refine acalls_vc (rs := [.cell 4 31, .tmp 5]) Try.func56 rfl rfl Try.ntmps56 rfl rfl ?_
  simp (maxSteps := 1000000) [go_sem, sysV, Bk.val, ou]
  have hp0 : H <+: H ++ [(⟨[.int .i64 p, u], true, true⟩ : Blk), ⟨[.int .i64 b.a, .int .i64 b.b, .int .i64 b.c], true, true⟩, ⟨[.int .i64 0, .slice none 0 0], true, true⟩] := List.prefix_append _ _
  have hx0 : Holds (H ++ [(⟨[.int .i64 p, u], true, true⟩ : Blk), ⟨[.int .i64 b.a, .int .i64 b.b, .int .i64 b.c], true, true⟩, ⟨[.int .i64 0, .slice none 0 0], true, true⟩]) H.length [.int .i64 p, u] := ⟨true, by simp⟩
  have hy0 : Holds (H ++ [(⟨[.int .i64 p, u], true, true⟩ : Blk), ⟨[.int .i64 b.a, .int .i64 b.b, .int .i64 b.c], true, true⟩, ⟨[.int .i64 0, .slice none 0 0], true, true⟩]) (H.length + 1) [.int .i64 b.a, .int .i64 b.b, .int .i64 b.c] := ⟨true, by simp⟩
  have hb0 : (H ++ [(⟨[.int .i64 p, u], true, true⟩ : Blk), ⟨[.int .i64 b.a, .int .i64 b.b, .int .i64 b.c], true, true⟩, ⟨[.int .i64 0, .slice none 0 0], true, true⟩])[H.length + 2]? = some ⟨[.int .i64 0, .slice none 0 0], true, true⟩ := by simp
  have hlen : (H ++ [(⟨[.int .i64 p, u], true, true⟩ : Blk), ⟨[.int .i64 b.a, .int .i64 b.b, .int .i64 b.c], true, true⟩, ⟨[.int .i64 0, .slice none 0 0], true, true⟩]).length = H.length + 3 := by simp
  generalize H ++ [(⟨[.int .i64 p, u], true, true⟩ : Blk), ⟨[.int .i64 b.a, .int .i64 b.b, .int .i64 b.c], true, true⟩, ⟨[.int .i64 0, .slice none 0 0], true, true⟩] = H0 at hp0 hx0 hy0 hb0 hlen ⊢
  have bad : ∀ (H' : Heap) (c : Int), H0 <+: H' → rPut p bs b = ((0, []), c) →
      storeAt H' (H.length + 2) 0 [.int .i64 0, .slice none 0 0] = some (H'.set (H.length + 2) ⟨[.int .i64 0, .slice none 0 0], true, true⟩) ∧
      cellsAt (H'.set (H.length + 2) ⟨[.int .i64 0, .slice none 0 0], true, true⟩) (H.length + 2) 0 2 = some [.int .i64 0, .slice none 0 0] ∧
      ∃ v', Up (H'.set (H.length + 2) ⟨[.int .i64 0, .slice none 0 0], true, true⟩) (.tuple #[.agg #[.int .i64 0, .slice none 0 0], .int .i64 c]) v' ∧ Post v' (H'.set (H.length + 2) ⟨[.int .i64 0, .slice none 0 0], true, true⟩) := by
    intro H' c hp hr
    obtain ⟨q1, q2, q3, q4⟩ := put2 (cs := [.int .i64 0, .slice none 0 0]) hp0 (show H.length ≤ H.length + 2 by omega) hb0 rfl hp rfl rfl
    have fin := h _ (lv 3 0 0 0) q3 (by rw [hr]; exact BlocksIn.nil _ _ _)
    rw [hr] at fin
    exact ⟨q1, q2, _, Up.tuple (ys := #[sysV 0 (lv 3 0 0 0), .int .i64 c]) ⟨zeroSys, Up.refl _ _, trivial⟩, fin⟩
  refine implIsSys (hu.pre hp0) _ ?_
  intro H1 hp1
  obtain ⟨d0, d1, d2⟩ := (hx0.pre hp1).sys
  obtain ⟨e0, e1, e2, e3⟩ := (hy0.pre hp1).bk
  cases hs : sysB p bs with
  | false =>
    obtain ⟨q1, q2, fin⟩ := bad H1 1 hp1 (by simp [rPut, hs])
    simp (maxSteps := 1000000) [go_sem, undef, q1, q2]
    exact fin
  | true =>
    have hS := sysB_iff.1 hs
    have hp15 := hS.1
    simp (maxSteps := 1000000) [go_sem, d0, d1, d2, e0, e1, e2, e3]
    refine isBlock_ok (b := b) (by omega) (by omega) _ ?_
    intro H2 hp2
    have hp12 := hp1.trans hp2
    obtain ⟨d0, d1, d2⟩ := (hx0.pre hp12).sys
    obtain ⟨e0, e1, e2, e3⟩ := (hy0.pre hp12).bk
    cases hg : good p b with
    | false =>
      obtain ⟨q1, q2, fin⟩ := bad H2 2 hp12 (by simp [rPut, hs, hg])
      simp (maxSteps := 1000000) [go_sem, undef, q1, q2]
      exact fin
    | true =>
      simp (maxSteps := 1000000) [go_sem, undef]
      refine AWp.draw mixed [(0, false), (2, false), (1, true), (3, false), (4, false), (5, false)] (by kernel_rfl) ?_
      simp (maxSteps := 1000000) [go_sem, undef, d0, d1, d2, e0, e1, e2, e3]
      refine sysGrid_ok (hu.pre (hp0.trans hp12)) hS.good15 hS.2.2.2 _ ?_
      intro H2b gid gs hp2b _ hga hgo
      obtain ⟨e0, e1, e2, e3⟩ := (hy0.pre (hp12.trans hp2b)).bk
      simp (maxSteps := 1000000) [go_sem, undef, hp2b, e0]
      refine isLeftB_ok hga hgo hg (by omega) _ ?_
      intro H3 hp3
      have hp03 := hp12.trans (hp2b.trans hp3)
      simp (maxSteps := 1000000) [go_sem, undef, hp3]
      have hx3 := hx0.pre hp03
      have hy3 := hy0.pre hp03
      obtain ⟨d0, d1, d2⟩ := hx3.sys
      obtain ⟨e0, e1, e2, e3⟩ := hy3.bk
      have hle3 := hp03.length_le
      cases hf : leftB bs b with
      | false =>
        obtain ⟨q1, q2, fin⟩ := bad H3 5 hp03 (by simp [rPut, hs, hg, hf])
        simp (maxSteps := 1000000) [go_sem, undef, q1, q2]
        exact fin
      | true =>
        have hr : rPut p bs b = ((p, sortB (bs ++ [b])), 0) := by simp [rPut, hs, hg, hf]
        have hu3 := hu.pre (hp0.trans hp03)
        have hl35 := hS.2.1
        simp (maxSteps := 1000000) [go_sem, undef]
        refine AWp.drawFX (H.length + 3) mixed [6] [(0, false), (1, false), (2, false), (3, false), (5, false), (4, true), (6, true), (7, true), (8, false), (9, false), (10, false)] (.one 0 false (.one 1 false (.one 2 false (.one 3 false (.one 5 false (.two 4 true (.one 6 true (.one 7 true (.one 8 false (.one 9 false (.one 10 false .nil))))) 6 (.one 4 true (.one 7 true (.one 8 false (.one 9 false (.one 10 false .nil))))))))))) (by kernel_rfl) ?_
        obtain ⟨j0, q0, eu, hat0, hsz0⟩ : ∃ j q, u = lv 3 j q bs.length ∧ At H3 j q (tri bs) ∧ bs.length ≤ 140737488355328 := hu3
        subst eu
        have hu3 : BlocksAt H3 (lv 3 j0 q0 bs.length) bs := ⟨j0, q0, rfl, hat0, hsz0⟩
        simp (maxSteps := 1000000) [go_sem, undef, d0, d1, d2, e0, e1, e2, e3]
        refine vTX_two ?_ ?_
        · simp (maxSteps := 1000000) [go_sem, undef, d0, d1, d2, e0, e1, e2, e3]
          refine cloneB_oe hu3 hl _ ?_
          intro H4 v4 hp4 hv4
          have hkA : KeepL (H.length + 3) H3 H4 := KeepL.of_prefix hp4 (by omega)
          obtain ⟨d0, d1, d2⟩ := (hx3.pre hp4).sys
          obtain ⟨e0, e1, e2, e3⟩ := (hy3.pre hp4).bk
          obtain ⟨a4, rfl⟩ := hv4.shape
          have hle4 := hp4.length_le
          have hp5 : H4 <+: H4 ++ [⟨[.int .i64 b.a, .int .i64 b.b, .int .i64 b.c], true, true⟩] := List.prefix_append _ _
          have hkB : KeepL (H.length + 3) H4 (H4 ++ [⟨[.int .i64 b.a, .int .i64 b.b, .int .i64 b.c], true, true⟩]) := KeepL.of_prefix hp5 (by omega)
          have hv := hv4.pre hp5
          have hc : cellsAt (H4 ++ [⟨[.int .i64 b.a, .int .i64 b.b, .int .i64 b.c], true, true⟩]) H4.length 0 3 = some [.int .i64 b.a, .int .i64 b.b, .int .i64 b.c] := by simpa using (Holds.last H4 [.int .i64 b.a, .int .i64 b.b, .int .i64 b.c]).cells (n := 3) (o := 0) (by simp)
          have hl5 : (H4 ++ [(⟨[.int .i64 b.a, .int .i64 b.b, .int .i64 b.c], true, true⟩ : Blk)]).length = H4.length + 1 := by simp
          obtain ⟨v6, H6, hap, he6, hk6, hl6⟩ := hv.append (m := 1) (news := [.int .i64 b.a, .int .i64 b.b, .int .i64 b.c]) (by omega) (by omega) rfl
          obtain ⟨a6, rfl⟩ := he6.shape
          have hle := (hp4.trans hp5).length_le
          have hp6 : H3 <+: H6 := KeepL.prefix (hp4.trans hp5) (by omega) hk6 (by omega)
          have hk6' : KeepL (H.length + 3) (H4 ++ [⟨[.int .i64 b.a, .int .i64 b.b, .int .i64 b.c], true, true⟩]) H6 := fun k hk => hk6 k (by omega)
          have et : tri bs ++ [.int .i64 b.a, .int .i64 b.b, .int .i64 b.c] = tri (bs ++ [b]) := by rw [tri_append]; rfl
          rw [et] at he6
          obtain ⟨w6, hup6, hw6⟩ := (show OE 3 _ H6 _ (tri (bs ++ [b])) (bs ++ [b]).length by rw [List.length_append]; exact he6).blocks (by simp; omega)
          simp (maxSteps := 1000000) [go_sem, undef, hkA, hkB, hc, hap, hk6', d0, d1, d2, e0, e1, e2, e3]
          refine andK_intro (by omega) ?_
          refine ACalls.up (args' := [.int .i64 p, w6]) ⟨Up.refl _ _, hup6, trivial⟩ ?_
          refine implSystem_ok hw6.read (by simp; omega) _ ?_
          intro H7 z hp7 hz
          have hk7 : KeepL (H.length + 3) H6 H7 := KeepL.of_prefix hp7 (by have := hp6.length_le; omega)
          have az := hz.one
          obtain ⟨q1, q2, q3, q4⟩ := put2 (cs := [.int .i64 p, z]) hp0 (show H.length ≤ H.length + 2 by omega) hb0 rfl (hp03.trans (hp6.trans hp7)) rfl (by simp [az, one_int])
          have fin := h _ z q3 (by rw [hr, List.length_set]; exact (hz.keep q4 (fun j hj e => by have := hj.1; have := hp6.length_le; omega)).wider (by have := hp6.length_le; omega))
          rw [hr] at fin
          simp (maxSteps := 1000000) [go_sem, undef, sysV, hk7, q1, q2]
          exact ⟨_, Up.refl _ _, fin⟩
        · have hp5 : H3 <+: H3 ++ [⟨[.int .i64 b.a, .int .i64 b.b, .int .i64 b.c], true, true⟩] := List.prefix_append _ _
          have hkA : KeepL (H.length + 3) H3 (H3 ++ [⟨[.int .i64 b.a, .int .i64 b.b, .int .i64 b.c], true, true⟩]) := KeepL.of_prefix hp5 (by omega)
          have hn := Holds.last H3 [.int .i64 b.a, .int .i64 b.b, .int .i64 b.c]
          have hl5 : (H3 ++ [(⟨[.int .i64 b.a, .int .i64 b.b, .int .i64 b.c], true, true⟩ : Blk)]).length = H3.length + 1 := by simp
          simp (maxSteps := 1000000) [go_sem, undef, hkA, d0, d1, d2, e0, e1, e2, e3]
          generalize H3 ++ [(⟨[.int .i64 b.a, .int .i64 b.b, .int .i64 b.c], true, true⟩ : Blk)] = HB at *
          refine cloneB_oe (hu3.pre hp5) hl _ ?_
          intro H4 v4 hp4 hv4
          have hkB : KeepL (H.length + 3) HB H4 := KeepL.of_prefix hp4 (by omega)
          obtain ⟨d0, d1, d2⟩ := (hx3.pre (hp5.trans hp4)).sys
          obtain ⟨e0, e1, e2, e3⟩ := (hy3.pre (hp5.trans hp4)).bk
          obtain ⟨a4, rfl⟩ := hv4.shape
          have hle4 := hp4.length_le
          have hv := hv4
          have hc : cellsAt H4 H3.length 0 3 = some [.int .i64 b.a, .int .i64 b.b, .int .i64 b.c] := by simpa using (hn.pre hp4).cells (n := 3) (o := 0) (by simp)
          obtain ⟨v6, H6, hap, he6, hk6, hl6⟩ := hv.append (m := 1) (news := [.int .i64 b.a, .int .i64 b.b, .int .i64 b.c]) (by omega) (by omega) rfl
          obtain ⟨a6, rfl⟩ := he6.shape
          have hle := (hp5.trans hp4).length_le
          have hp6 : H3 <+: H6 := KeepL.prefix (hp5.trans hp4) (by omega) hk6 (by omega)
          have hk6' : KeepL (H.length + 3) H4 H6 := fun k hk => hk6 k (by omega)
          have et : tri bs ++ [.int .i64 b.a, .int .i64 b.b, .int .i64 b.c] = tri (bs ++ [b]) := by rw [tri_append]; rfl
          rw [et] at he6
          obtain ⟨w6, hup6, hw6⟩ := (show OE 3 _ H6 _ (tri (bs ++ [b])) (bs ++ [b]).length by rw [List.length_append]; exact he6).blocks (by simp; omega)
          simp (maxSteps := 1000000) [go_sem, undef, hkA, hkB, hc, hap, hk6', d0, d1, d2, e0, e1, e2, e3]
          refine andK_intro (by omega) ?_
          refine ACalls.up (args' := [.int .i64 p, w6]) ⟨Up.refl _ _, hup6, trivial⟩ ?_
          refine implSystem_ok hw6.read (by simp; omega) _ ?_
          intro H7 z hp7 hz
          have hk7 : KeepL (H.length + 3) H6 H7 := KeepL.of_prefix hp7 (by have := hp6.length_le; omega)
          have az := hz.one
          obtain ⟨q1, q2, q3, q4⟩ := put2 (cs := [.int .i64 p, z]) hp0 (show H.length ≤ H.length + 2 by omega) hb0 rfl (hp03.trans (hp6.trans hp7)) rfl (by simp [az, one_int])
          have fin := h _ z q3 (by rw [hr, List.length_set]; exact (hz.keep q4 (fun j hj e => by have := hj.1; have := hp6.length_le; omega)).wider (by have := hp6.length_le; omega))
          rw [hr] at fin
          simp (maxSteps := 1000000) [go_sem, undef, sysV, hk7, q1, q2]
          exact ⟨_, Up.refl _ _, fin⟩

end Go.Proofs.Ytakkmkinfeddeaa
end

section
/- PutBlock: the specification's side. -/
set_option linter.all false
set_option maxRecDepth 20000
set_option maxHeartbeats 8000000
namespace Go.Proofs.Ytakkmkinfeddeaa
open Go.Ab Go.Sort

/-- An append to an empty list of one's own. -/
theorem emptyAppend {e L : Nat} {H : Heap} {id : Nat} (hL : L ≤ id) (hb : H[id]? = some ⟨[], true, true⟩) (he : 0 < e) {m : Nat} {news : List Value} (hn : news.length = m * e) :
    ∃ v' H', appendH H e (.slice (some ⟨id, 0, none⟩) 0 0) m news = some (v', H') ∧ OE e L H' v' news m ∧ H <+: H' := by
  have hid := (List.getElem?_eq_some_iff.1 hb).1
  by_cases hm : m = 0
  · subst hm
    have : news = [] := List.eq_nil_of_length_eq_zero (by simpa using hn)
    subst this
    exact ⟨_, H, by simp [appendH], OE.empty hL hb, List.prefix_refl _⟩
  · have hc : cellsAt H id 0 0 = some [] := by rw [cellsAt_of hb rfl (by simp)]; simp
    exact ⟨lv e H.length 0 m, H ++ [⟨news, true, true⟩], by simp [appendH, hm, hc], ⟨hn, .inr (.inr ⟨H.length, by omega, rfl, .inr (by simp)⟩)⟩, List.prefix_append _ _⟩

theorem specPut_ok {H : Heap} {u : Value} {p : Int} {bs : List Bk} {b : Bk} (hu : BlocksAt H u bs) (hl : bs.length ≤ 1048576) (hn : In64 b.a ∧ In64 b.b ∧ In64 b.c) (Post : Value → Heap → Prop)
    (h : ∀ H' z, H <+: H' → BlocksIn H.length H'.length H' z (rPut p bs b).1.2 → Post (.tuple #[sysV (rPut p bs b).1.1 z, .int .i64 (rPut p bs b).2]) H') : ACalls Try.prog 54 [sysV p u, b.val] H Post := by
  have ou := hu.one
  refine ACalls.res ?_
  refine acalls_vc (rs := [.cell 4 31, .tmp 5]) Try.func54 rfl rfl Try.ntmps54 rfl rfl ?_
  simp (maxSteps := 1000000) [go_sem, sysV, Bk.val, ou]
  have hp0 : H <+: H ++ [(⟨[.int .i64 p, u], true, true⟩ : Blk), ⟨[.int .i64 b.a, .int .i64 b.b, .int .i64 b.c], true, true⟩, ⟨[.int .i64 0, .slice none 0 0], true, true⟩] := List.prefix_append _ _
  have hx0 : Holds (H ++ [(⟨[.int .i64 p, u], true, true⟩ : Blk), ⟨[.int .i64 b.a, .int .i64 b.b, .int .i64 b.c], true, true⟩, ⟨[.int .i64 0, .slice none 0 0], true, true⟩]) H.length [.int .i64 p, u] := ⟨true, by simp⟩
  have hy0 : Holds (H ++ [(⟨[.int .i64 p, u], true, true⟩ : Blk), ⟨[.int .i64 b.a, .int .i64 b.b, .int .i64 b.c], true, true⟩, ⟨[.int .i64 0, .slice none 0 0], true, true⟩]) (H.length + 1) [.int .i64 b.a, .int .i64 b.b, .int .i64 b.c] := ⟨true, by simp⟩
  have hb0 : (H ++ [(⟨[.int .i64 p, u], true, true⟩ : Blk), ⟨[.int .i64 b.a, .int .i64 b.b, .int .i64 b.c], true, true⟩, ⟨[.int .i64 0, .slice none 0 0], true, true⟩])[H.length + 2]? = some ⟨[.int .i64 0, .slice none 0 0], true, true⟩ := by simp
  have hlen : (H ++ [(⟨[.int .i64 p, u], true, true⟩ : Blk), ⟨[.int .i64 b.a, .int .i64 b.b, .int .i64 b.c], true, true⟩, ⟨[.int .i64 0, .slice none 0 0], true, true⟩]).length = H.length + 3 := by simp
  generalize H ++ [(⟨[.int .i64 p, u], true, true⟩ : Blk), ⟨[.int .i64 b.a, .int .i64 b.b, .int .i64 b.c], true, true⟩, ⟨[.int .i64 0, .slice none 0 0], true, true⟩] = H0 at hp0 hx0 hy0 hb0 hlen ⊢
  have bad : ∀ (H' : Heap) (c : Int), H0 <+: H' → rPut p bs b = ((0, []), c) →
      storeAt H' (H.length + 2) 0 [.int .i64 0, .slice none 0 0] = some (H'.set (H.length + 2) ⟨[.int .i64 0, .slice none 0 0], true, true⟩) ∧
      cellsAt (H'.set (H.length + 2) ⟨[.int .i64 0, .slice none 0 0], true, true⟩) (H.length + 2) 0 2 = some [.int .i64 0, .slice none 0 0] ∧
      ∃ v', Up (H'.set (H.length + 2) ⟨[.int .i64 0, .slice none 0 0], true, true⟩) (.tuple #[.agg #[.int .i64 0, .slice none 0 0], .int .i64 c]) v' ∧ Post v' (H'.set (H.length + 2) ⟨[.int .i64 0, .slice none 0 0], true, true⟩) := by
    intro H' c hp hr
    obtain ⟨q1, q2, q3, q4⟩ := put2 (cs := [.int .i64 0, .slice none 0 0]) hp0 (show H.length ≤ H.length + 2 by omega) hb0 rfl hp rfl rfl
    have fin := h _ (lv 3 0 0 0) q3 (by rw [hr]; exact BlocksIn.nil _ _ _)
    rw [hr] at fin
    exact ⟨q1, q2, _, Up.tuple (ys := #[sysV 0 (lv 3 0 0 0), .int .i64 c]) ⟨zeroSys, Up.refl _ _, trivial⟩, fin⟩
  refine l01Is' (hu.pre hp0) hl _ ?_
  intro H1 hp1
  obtain ⟨d0, d1, d2⟩ := (hx0.pre hp1).sys
  obtain ⟨e0, e1, e2, e3⟩ := (hy0.pre hp1).bk
  cases hs : sysB p bs with
  | false =>
    obtain ⟨q1, q2, fin⟩ := bad H1 1 hp1 (by simp [rPut, hs])
    simp (maxSteps := 1000000) [go_sem, undef, q1, q2]
    exact fin
  | true =>
    have hS := sysB_iff.1 hs
    have hp15 := hS.1
    simp (maxSteps := 1000000) [go_sem, d0, d1, d2, e0, e1, e2, e3]
    refine l01Good_ok (b := b) _ ?_
    intro H2 hp2
    have hp12 := hp1.trans hp2
    obtain ⟨d0, d1, d2⟩ := (hx0.pre hp12).sys
    obtain ⟨e0, e1, e2, e3⟩ := (hy0.pre hp12).bk
    cases hg : good p b with
    | false =>
      obtain ⟨q1, q2, fin⟩ := bad H2 2 hp12 (by simp [rPut, hs, hg])
      simp (maxSteps := 1000000) [go_sem, undef, q1, q2]
      exact fin
    | true =>
      simp (maxSteps := 1000000) [go_sem, undef, d0, d1, d2, e0, e1, e2, e3]
      refine l01Free_ok (hu.pre (hp0.trans hp12)) hS.good15 hg _ ?_
      intro H3 hp3
      have hp03 := hp12.trans hp3
      have hx3 := hx0.pre hp03
      have hy3 := hy0.pre hp03
      obtain ⟨d0, d1, d2⟩ := hx3.sys
      obtain ⟨e0, e1, e2, e3⟩ := hy3.bk
      have hle3 := hp03.length_le
      cases hf : leftB bs b with
      | false =>
        obtain ⟨q1, q2, fin⟩ := bad H3 5 hp03 (by simp [rPut, hs, hg, hf])
        simp (maxSteps := 1000000) [go_sem, undef, q1, q2]
        exact fin
      | true =>
        have hr : rPut p bs b = ((p, sortB (bs ++ [b])), 0) := by simp [rPut, hs, hg, hf]
        have hu3 := hu.pre (hp0.trans hp03)
        have hl35 := hS.2.1
        simp (maxSteps := 1000000) [go_sem, undef]
        refine AWp.drawFX (H.length + 3) mixed [7] [(0, false), (1, false), (3, false), (4, false), (6, false), (2, true), (5, true), (7, true), (8, true), (9, false), (10, false), (11, false)] (.one 0 false (.one 1 false (.one 3 false (.one 4 false (.one 6 false (.two 2 true (.two 5 true (.one 7 true (.one 8 true (.one 9 false (.one 10 false (.one 11 false .nil))))) 7 (.one 5 true (.one 8 true (.one 9 false (.one 10 false (.one 11 false .nil)))))) 7 (.one 2 true (.one 5 true (.one 8 true (.one 9 false (.one 10 false (.one 11 false .nil)))))))))))) (by kernel_rfl) ?_
        obtain ⟨j0, q0, eu, hat0, hsz0⟩ : ∃ j q, u = lv 3 j q bs.length ∧ At H3 j q (tri bs) ∧ bs.length ≤ 140737488355328 := hu3
        subst eu
        have hu3 : BlocksAt H3 (lv 3 j0 q0 bs.length) bs := ⟨j0, q0, rfl, hat0, hsz0⟩
        simp (maxSteps := 1000000) [go_sem, undef, d0, d1, d2, e0, e1, e2, e3]
        refine vTX_two ?_ ?_
        · have hleX0 := ((List.prefix_refl H3)).length_le
          have hs0 : H3 <+: H3 ++ [⟨[], true, true⟩] := List.prefix_append _ _
          have hkA : KeepL (H.length + 3) H3 (H3 ++ [⟨[], true, true⟩]) := KeepL.of_prefix hs0 (by omega)
          have hbE : (H3 ++ [(⟨[], true, true⟩ : Blk)])[H3.length]? = some ⟨[], true, true⟩ := by simp
          have hlY0 : (H3 ++ [(⟨[], true, true⟩ : Blk)]).length = H3.length + 1 := by simp
          try simp (maxSteps := 1000000) [go_sem, undef, d0, d1, d2, e0, e1, e2, e3]
          generalize H3 ++ [(⟨[], true, true⟩ : Blk)] = HS0 at *
          refine andK_intro hkA ?_
          obtain ⟨d0, d1, d2⟩ := (hx3.pre ((List.prefix_refl H3).trans hs0)).sys
          obtain ⟨e0, e1, e2, e3⟩ := (hy3.pre ((List.prefix_refl H3).trans hs0)).bk
          have hleX1 := (((List.prefix_refl H3).trans hs0)).length_le
          refine vTX_two ?_ ?_
          · obtain ⟨v4, HS1, hapP, hv4, hs1⟩ := emptyAppend (L := H3.length) (e := 3) (m := bs.length) (news := tri bs) (by omega) hbE (by omega) (by rw [tri_length])
            obtain ⟨a4, rfl⟩ := hv4.shape
            have hkB : KeepL (H.length + 3) HS0 HS1 := KeepL.of_prefix hs1 (by omega)
            have hsrc := tri_src (hat0.pre ((List.prefix_refl H3).trans hs0))
            simp only [srcCells, List.length_eq_zero_iff] at hsrc
            simp (maxSteps := 1000000) [go_sem, undef, hkA, hkB, hsrc, hapP, d0, d1, d2, e0, e1, e2, e3]
            refine andK_intro (by omega) ?_
            obtain ⟨d0, d1, d2⟩ := (hx3.pre (((List.prefix_refl H3).trans hs0).trans hs1)).sys
            obtain ⟨e0, e1, e2, e3⟩ := (hy3.pre (((List.prefix_refl H3).trans hs0).trans hs1)).bk
            have hleX2 := ((((List.prefix_refl H3).trans hs0).trans hs1)).length_le
            have hs2 : HS1 <+: HS1 ++ [⟨[.int .i64 b.a, .int .i64 b.b, .int .i64 b.c], true, true⟩] := List.prefix_append _ _
            have hkC : KeepL (H.length + 3) HS1 (HS1 ++ [⟨[.int .i64 b.a, .int .i64 b.b, .int .i64 b.c], true, true⟩]) := KeepL.of_prefix hs2 (by omega)
            have hcN := Holds.last HS1 [.int .i64 b.a, .int .i64 b.b, .int .i64 b.c]
            have hlY2 : (HS1 ++ [(⟨[.int .i64 b.a, .int .i64 b.b, .int .i64 b.c], true, true⟩ : Blk)]).length = HS1.length + 1 := by simp
            try simp (maxSteps := 1000000) [go_sem, undef, hkA, hkB, d0, d1, d2, e0, e1, e2, e3]
            generalize HS1 ++ [(⟨[.int .i64 b.a, .int .i64 b.b, .int .i64 b.c], true, true⟩ : Blk)] = HS2 at *
            refine andK_intro hkC ?_
            obtain ⟨d0, d1, d2⟩ := (hx3.pre ((((List.prefix_refl H3).trans hs0).trans hs1).trans hs2)).sys
            obtain ⟨e0, e1, e2, e3⟩ := (hy3.pre ((((List.prefix_refl H3).trans hs0).trans hs1).trans hs2)).bk
            replace hv4 := hv4.pre hs2
            have hv := hv4
            have hc : cellsAt HS2 HS1.length 0 3 = some [.int .i64 b.a, .int .i64 b.b, .int .i64 b.c] := by simpa using hcN.cells (n := 3) (o := 0) (by simp)
            have hleP := (((((List.prefix_refl H3).trans hs0).trans hs1).trans hs2)).length_le
            obtain ⟨v6, H6, hap, he6, hk6, hl6⟩ := hv.append (m := 1) (news := [.int .i64 b.a, .int .i64 b.b, .int .i64 b.c]) (by omega) (by omega) rfl
            obtain ⟨a6, rfl⟩ := he6.shape
            have hle := (((((List.prefix_refl H3).trans hs0).trans hs1).trans hs2)).length_le
            have hp6 : H3 <+: H6 := KeepL.prefix (((((List.prefix_refl H3).trans hs0).trans hs1).trans hs2)) (by omega) hk6 (by omega)
            have hk6' : KeepL (H.length + 3) HS2 H6 := fun k hk => hk6 k (by omega)
            have et : tri bs ++ [.int .i64 b.a, .int .i64 b.b, .int .i64 b.c] = tri (bs ++ [b]) := by rw [tri_append]; rfl
            rw [et] at he6
            obtain ⟨w6, hup6, hw6⟩ := (show OE 3 _ H6 _ (tri (bs ++ [b])) (bs ++ [b]).length by rw [List.length_append]; exact he6).blocks (by simp; omega)
            simp (maxSteps := 1000000) [go_sem, undef, hkA, hkB, hkC, hc, hap, hk6', d0, d1, d2, e0, e1, e2, e3]
            refine andK_intro (by omega) ?_
            refine ACalls.up (args' := [.int .i64 p, w6]) ⟨Up.refl _ _, hup6, trivial⟩ ?_
            refine l01Made_ok hw6.read (by simp; omega) _ ?_
            intro H7 z hp7 hz
            have hk7 : KeepL (H.length + 3) H6 H7 := KeepL.of_prefix hp7 (by have := hp6.length_le; omega)
            have az := hz.one
            obtain ⟨q1, q2, q3, q4⟩ := put2 (cs := [.int .i64 p, z]) hp0 (show H.length ≤ H.length + 2 by omega) hb0 rfl (hp03.trans (hp6.trans hp7)) rfl (by simp [az, one_int])
            have fin := h _ z q3 (by rw [hr, List.length_set]; exact (hz.keep q4 (fun j hj e => by have := hj.1; have := hp6.length_le; omega)).wider (by have := hp6.length_le; omega))
            rw [hr] at fin
            simp (maxSteps := 1000000) [go_sem, undef, sysV, hk7, q1, q2]
            exact ⟨_, Up.refl _ _, fin⟩
          · have hs1 : HS0 <+: HS0 ++ [⟨[.int .i64 b.a, .int .i64 b.b, .int .i64 b.c], true, true⟩] := List.prefix_append _ _
            have hkB : KeepL (H.length + 3) HS0 (HS0 ++ [⟨[.int .i64 b.a, .int .i64 b.b, .int .i64 b.c], true, true⟩]) := KeepL.of_prefix hs1 (by omega)
            have hcN := Holds.last HS0 [.int .i64 b.a, .int .i64 b.b, .int .i64 b.c]
            have hlY1 : (HS0 ++ [(⟨[.int .i64 b.a, .int .i64 b.b, .int .i64 b.c], true, true⟩ : Blk)]).length = HS0.length + 1 := by simp
            try simp (maxSteps := 1000000) [go_sem, undef, hkA, d0, d1, d2, e0, e1, e2, e3]
            generalize HS0 ++ [(⟨[.int .i64 b.a, .int .i64 b.b, .int .i64 b.c], true, true⟩ : Blk)] = HS1 at *
            refine andK_intro hkB ?_
            obtain ⟨d0, d1, d2⟩ := (hx3.pre (((List.prefix_refl H3).trans hs0).trans hs1)).sys
            obtain ⟨e0, e1, e2, e3⟩ := (hy3.pre (((List.prefix_refl H3).trans hs0).trans hs1)).bk
            replace hbE := Same.get (S := fun _ => False) (Same.of_prefix hs1) hbE (fun h => h)
            have hleX2 := ((((List.prefix_refl H3).trans hs0).trans hs1)).length_le
            obtain ⟨v4, HS2, hapP, hv4, hs2⟩ := emptyAppend (L := H3.length) (e := 3) (m := bs.length) (news := tri bs) (by omega) hbE (by omega) (by rw [tri_length])
            obtain ⟨a4, rfl⟩ := hv4.shape
            have hkC : KeepL (H.length + 3) HS1 HS2 := KeepL.of_prefix hs2 (by omega)
            have hsrc := tri_src (hat0.pre (((List.prefix_refl H3).trans hs0).trans hs1))
            simp only [srcCells, List.length_eq_zero_iff] at hsrc
            simp (maxSteps := 1000000) [go_sem, undef, hkA, hkB, hkC, hsrc, hapP, d0, d1, d2, e0, e1, e2, e3]
            refine andK_intro (by omega) ?_
            obtain ⟨d0, d1, d2⟩ := (hx3.pre ((((List.prefix_refl H3).trans hs0).trans hs1).trans hs2)).sys
            obtain ⟨e0, e1, e2, e3⟩ := (hy3.pre ((((List.prefix_refl H3).trans hs0).trans hs1).trans hs2)).bk
            replace hcN := hcN.pre hs2
            have hv := hv4
            have hc : cellsAt HS2 HS0.length 0 3 = some [.int .i64 b.a, .int .i64 b.b, .int .i64 b.c] := by simpa using hcN.cells (n := 3) (o := 0) (by simp)
            have hleP := (((((List.prefix_refl H3).trans hs0).trans hs1).trans hs2)).length_le
            obtain ⟨v6, H6, hap, he6, hk6, hl6⟩ := hv.append (m := 1) (news := [.int .i64 b.a, .int .i64 b.b, .int .i64 b.c]) (by omega) (by omega) rfl
            obtain ⟨a6, rfl⟩ := he6.shape
            have hle := (((((List.prefix_refl H3).trans hs0).trans hs1).trans hs2)).length_le
            have hp6 : H3 <+: H6 := KeepL.prefix (((((List.prefix_refl H3).trans hs0).trans hs1).trans hs2)) (by omega) hk6 (by omega)
            have hk6' : KeepL (H.length + 3) HS2 H6 := fun k hk => hk6 k (by omega)
            have et : tri bs ++ [.int .i64 b.a, .int .i64 b.b, .int .i64 b.c] = tri (bs ++ [b]) := by rw [tri_append]; rfl
            rw [et] at he6
            obtain ⟨w6, hup6, hw6⟩ := (show OE 3 _ H6 _ (tri (bs ++ [b])) (bs ++ [b]).length by rw [List.length_append]; exact he6).blocks (by simp; omega)
            simp (maxSteps := 1000000) [go_sem, undef, hkA, hkB, hkC, hc, hap, hk6', d0, d1, d2, e0, e1, e2, e3]
            refine andK_intro (by omega) ?_
            refine ACalls.up (args' := [.int .i64 p, w6]) ⟨Up.refl _ _, hup6, trivial⟩ ?_
            refine l01Made_ok hw6.read (by simp; omega) _ ?_
            intro H7 z hp7 hz
            have hk7 : KeepL (H.length + 3) H6 H7 := KeepL.of_prefix hp7 (by have := hp6.length_le; omega)
            have az := hz.one
            obtain ⟨q1, q2, q3, q4⟩ := put2 (cs := [.int .i64 p, z]) hp0 (show H.length ≤ H.length + 2 by omega) hb0 rfl (hp03.trans (hp6.trans hp7)) rfl (by simp [az, one_int])
            have fin := h _ z q3 (by rw [hr, List.length_set]; exact (hz.keep q4 (fun j hj e => by have := hj.1; have := hp6.length_le; omega)).wider (by have := hp6.length_le; omega))
            rw [hr] at fin
            simp (maxSteps := 1000000) [go_sem, undef, sysV, hk7, q1, q2]
            exact ⟨_, Up.refl _ _, fin⟩
        · have hleX0 := ((List.prefix_refl H3)).length_le
          have hs0 : H3 <+: H3 ++ [⟨[.int .i64 b.a, .int .i64 b.b, .int .i64 b.c], true, true⟩] := List.prefix_append _ _
          have hkA : KeepL (H.length + 3) H3 (H3 ++ [⟨[.int .i64 b.a, .int .i64 b.b, .int .i64 b.c], true, true⟩]) := KeepL.of_prefix hs0 (by omega)
          have hcN := Holds.last H3 [.int .i64 b.a, .int .i64 b.b, .int .i64 b.c]
          have hlY0 : (H3 ++ [(⟨[.int .i64 b.a, .int .i64 b.b, .int .i64 b.c], true, true⟩ : Blk)]).length = H3.length + 1 := by simp
          try simp (maxSteps := 1000000) [go_sem, undef, d0, d1, d2, e0, e1, e2, e3]
          rw [show H3 ++ [(⟨[.int .i64 b.a, .int .i64 b.b, .int .i64 b.c], true, true⟩ : Blk), ⟨[], true, true⟩] = (H3 ++ [⟨[.int .i64 b.a, .int .i64 b.b, .int .i64 b.c], true, true⟩]) ++ [⟨[], true, true⟩] by simp]
          generalize H3 ++ [(⟨[.int .i64 b.a, .int .i64 b.b, .int .i64 b.c], true, true⟩ : Blk)] = HS0 at *
          refine andK_intro hkA ?_
          obtain ⟨d0, d1, d2⟩ := (hx3.pre ((List.prefix_refl H3).trans hs0)).sys
          obtain ⟨e0, e1, e2, e3⟩ := (hy3.pre ((List.prefix_refl H3).trans hs0)).bk
          have hleX1 := (((List.prefix_refl H3).trans hs0)).length_le
          have hs1 : HS0 <+: HS0 ++ [⟨[], true, true⟩] := List.prefix_append _ _
          have hkB : KeepL (H.length + 3) HS0 (HS0 ++ [⟨[], true, true⟩]) := KeepL.of_prefix hs1 (by omega)
          have hbE : (HS0 ++ [(⟨[], true, true⟩ : Blk)])[HS0.length]? = some ⟨[], true, true⟩ := by simp
          have hlY1 : (HS0 ++ [(⟨[], true, true⟩ : Blk)]).length = HS0.length + 1 := by simp
          try simp (maxSteps := 1000000) [go_sem, undef, hkA, d0, d1, d2, e0, e1, e2, e3]
          generalize HS0 ++ [(⟨[], true, true⟩ : Blk)] = HS1 at *
          refine andK_intro hkB ?_
          rw [hlY0] at hbE
          obtain ⟨d0, d1, d2⟩ := (hx3.pre (((List.prefix_refl H3).trans hs0).trans hs1)).sys
          obtain ⟨e0, e1, e2, e3⟩ := (hy3.pre (((List.prefix_refl H3).trans hs0).trans hs1)).bk
          replace hcN := hcN.pre hs1
          have hleX2 := ((((List.prefix_refl H3).trans hs0).trans hs1)).length_le
          obtain ⟨v4, HS2, hapP, hv4, hs2⟩ := emptyAppend (L := H3.length) (e := 3) (m := bs.length) (news := tri bs) (by omega) hbE (by omega) (by rw [tri_length])
          obtain ⟨a4, rfl⟩ := hv4.shape
          have hkC : KeepL (H.length + 3) HS1 HS2 := KeepL.of_prefix hs2 (by omega)
          have hsrc := tri_src (hat0.pre (((List.prefix_refl H3).trans hs0).trans hs1))
          simp only [srcCells, List.length_eq_zero_iff] at hsrc
          simp (maxSteps := 1000000) [go_sem, undef, hkA, hkB, hkC, hsrc, hapP, d0, d1, d2, e0, e1, e2, e3]
          refine andK_intro (by omega) ?_
          obtain ⟨d0, d1, d2⟩ := (hx3.pre ((((List.prefix_refl H3).trans hs0).trans hs1).trans hs2)).sys
          obtain ⟨e0, e1, e2, e3⟩ := (hy3.pre ((((List.prefix_refl H3).trans hs0).trans hs1).trans hs2)).bk
          replace hcN := hcN.pre hs2
          have hv := hv4
          have hc : cellsAt HS2 H3.length 0 3 = some [.int .i64 b.a, .int .i64 b.b, .int .i64 b.c] := by simpa using hcN.cells (n := 3) (o := 0) (by simp)
          have hleP := (((((List.prefix_refl H3).trans hs0).trans hs1).trans hs2)).length_le
          obtain ⟨v6, H6, hap, he6, hk6, hl6⟩ := hv.append (m := 1) (news := [.int .i64 b.a, .int .i64 b.b, .int .i64 b.c]) (by omega) (by omega) rfl
          obtain ⟨a6, rfl⟩ := he6.shape
          have hle := (((((List.prefix_refl H3).trans hs0).trans hs1).trans hs2)).length_le
          have hp6 : H3 <+: H6 := KeepL.prefix (((((List.prefix_refl H3).trans hs0).trans hs1).trans hs2)) (by omega) hk6 (by omega)
          have hk6' : KeepL (H.length + 3) HS2 H6 := fun k hk => hk6 k (by omega)
          have et : tri bs ++ [.int .i64 b.a, .int .i64 b.b, .int .i64 b.c] = tri (bs ++ [b]) := by rw [tri_append]; rfl
          rw [et] at he6
          obtain ⟨w6, hup6, hw6⟩ := (show OE 3 _ H6 _ (tri (bs ++ [b])) (bs ++ [b]).length by rw [List.length_append]; exact he6).blocks (by simp; omega)
          simp (maxSteps := 1000000) [go_sem, undef, hkA, hkB, hkC, hc, hap, hk6', d0, d1, d2, e0, e1, e2, e3]
          refine andK_intro (by omega) ?_
          refine ACalls.up (args' := [.int .i64 p, w6]) ⟨Up.refl _ _, hup6, trivial⟩ ?_
          refine l01Made_ok hw6.read (by simp; omega) _ ?_
          intro H7 z hp7 hz
          have hk7 : KeepL (H.length + 3) H6 H7 := KeepL.of_prefix hp7 (by have := hp6.length_le; omega)
          have az := hz.one
          obtain ⟨q1, q2, q3, q4⟩ := put2 (cs := [.int .i64 p, z]) hp0 (show H.length ≤ H.length + 2 by omega) hb0 rfl (hp03.trans (hp6.trans hp7)) rfl (by simp [az, one_int])
          have fin := h _ z q3 (by rw [hr, List.length_set]; exact (hz.keep q4 (fun j hj e => by have := hj.1; have := hp6.length_le; omega)).wider (by have := hp6.length_le; omega))
          rw [hr] at fin
          simp (maxSteps := 1000000) [go_sem, undef, sysV, hk7, q1, q2]
          exact ⟨_, Up.refl _ _, fin⟩

end Go.Proofs.Ytakkmkinfeddeaa
end

section
/- One block handed in: its shape. -/
set_option linter.all false
set_option maxRecDepth 20000
namespace Go.Proofs.Ytakkmkinfeddeaa
open Go.Ab

def shBlock : Shape := ⟨66, true, cMany (cInt .i64) 3⟩
theorem fits_shBlock {D : Type} {enc : TypeId × Value → D} (W : World) : shBlock.fits enc Try.prog W :=
  ⟨cMany_stable (cInt_stable _) 3, open_cArr (c := 1) Try.underlying66 (by kernel_rfl) (by kernel_rfl) (cInt_stable _) (open_cInt Try.underlying2),
   by show (match Try.prog.underlying 66 with | _ => _); rw [Try.underlying66]; rfl⟩
theorem says_shBlock {H : Heap} {v : Value} (h : shBlock.says H v) : ∃ b : Bk, v = b.val ∧ In64 b.a ∧ In64 b.b ∧ In64 b.c := by
  obtain ⟨acs, rfl, h⟩ := h
  obtain ⟨b, rfl, hw⟩ := bk_of_many h
  exact ⟨b, rfl, hw⟩

end Go.Proofs.Ytakkmkinfeddeaa
end

section
/- A region's end told once; a cell made early and filled late. It holds for every program. -/
set_option linter.all false
namespace Go.Ab

theorem AWp.regCut {P : Program} {N : Nat} {H : Heap} {fr : Fr} {Q : Exit → Fr → Heap → Prop} {St : Type} {c : Code} (N' : St → Fr) (E : St → Heap → Prop)
    (hx : ∀ Q' : Exit → Fr → Heap → Prop, (∀ (s : St) (fr' : Fr) (H' : Heap), upF H' (N' s ++ fr) fr' → E s H' → Q' .normal fr' H') → AWp P N c Q' fr H)
    (hy : ∀ (s : St) (H' : Heap), E s H' → Q .normal (N' s ++ fr) H') : AWp P N c Q fr H := by
  let Q1 : Exit → Fr → Heap → Prop := fun e f h => match e with
    | .normal => ∃ s, upF h (N' s ++ fr) f ∧ E s h
    | _ => False
  refine AWp.weak (Q := Q1) ?_ (hx Q1 fun s f h h1 h2 => ⟨s, h1, h2⟩)
  intro e f h hq
  cases e with
  | normal => obtain ⟨s, h1, h2⟩ := hq; exact ⟨_, h1, hy s h h2⟩
  | _ => exact hq.elim

theorem boxLate {Hz Hn : Heap} {id : Nat} {zs cs : List Value} (hz : Hz[id]? = some ⟨zs, true, true⟩) (hp : Hz <+: Hn) (hl : zs.length = cs.length) (ho : cs.all Value.oneCell' = true) :
    storeAt Hn id 0 cs = some (Hn.set id ⟨cs, true, true⟩) ∧ Holds (Hn.set id ⟨cs, true, true⟩) id cs ∧ Same (fun j => j = id) Hn (Hn.set id ⟨cs, true, true⟩) ∧ (Hn.set id ⟨cs, true, true⟩).length = Hn.length := by
  have hb := Same.get (S := fun _ => False) (Same.of_prefix hp) hz (fun h => h)
  refine ⟨?_, ⟨true, List.getElem?_set_self (List.getElem?_eq_some_iff.1 hb).1⟩, same_set, by simp⟩
  rw [storeAt_of hb rfl rfl (by simp [hl]) ho]
  congr 3
  simp [over, hl]

end Go.Ab
end
