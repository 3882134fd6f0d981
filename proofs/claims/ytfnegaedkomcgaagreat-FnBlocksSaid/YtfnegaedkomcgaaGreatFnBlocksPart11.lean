/- Part 11 of what the proof of the law FnBlocks rests on: contracts of functions of the program, for every argument that each names; no statement of the seat is proved here. -/
import Derived.Test.YtfnegaedkomcgaaGreatFnBlocksPart10

set_option linter.all false
set_option maxRecDepth 20000
set_option maxHeartbeats 8000000
section
namespace Go.Proofs.YtfnegaedkomcgaaGreat
open Go.Ab Go.Sort

theorem emptyAppend {e L : Nat} {H : Heap} {id : Nat} (hL : L <= id) (hb : H[id]? = some ⟨[], true, true⟩) (he : 0 < e) {m : Nat} {news : List Value} (hn : news.length = m * e) :
  ∃ v' H', appendH H e (.slice (some ⟨id, 0, none⟩) 0 0) m news = some (v', H') /\ OE e L H' v' news m /\ H <+: H' := by
 have hid := (List.getElem?_eq_some_iff.1 hb).1
 by_cases hm : m = 0
 ·subst hm
  have : news = [] := List.eq_nil_of_length_eq_zero (by simpa using hn)
  subst this
  exact ⟨_, H, by simp [appendH], OE.empty hL hb, List.prefix_refl _⟩
 ·have hc : cellsAt H id 0 0 = some [] := by rw [cellsAt_of hb rfl (by simp)]; simp
  exact ⟨lv e H.length 0 m, H ++ [⟨news, true, true⟩], by simp [appendH, hm, hc], ⟨hn, .inr (.inr ⟨H.length, by omega, rfl, .inr (by simp)⟩)⟩, List.prefix_append _ _⟩

theorem specPut_ok {H : Heap} {u : Value} {p : Int} {bs : List Bk} {b : Bk} (hu : BlocksAt H u bs) (hl : bs.length <= 1048576) (hn : In64 b.a /\ In64 b.b /\ In64 b.c) (Post : Value -> Heap -> Prop)
  (h : ∀ H' z, H <+: H' -> BlocksIn H.length H'.length H' z (rPut p bs b).1.2 -> Post (.tuple #[sysV (rPut p bs b).1.1 z, .int .i64 (rPut p bs b).2]) H') : ACalls Tryz.prog 18 [sysV p u, b.val] H Post := by
 have ou := hu.one
 refine ACalls.res ?_
 refine acalls_vc (rs := [.cell 4 26, .tmp 5]) Tryz.func18 rfl rfl Tryz.ntmps18 rfl rfl ?_
 simp (maxSteps := 1000000) [go_sem, sysV, Bk.val, ou]
 have hp0 : H <+: H ++ [(⟨[.int .i64 p, u], true, true⟩ : Blk), ⟨[.int .i64 b.a, .int .i64 b.b, .int .i64 b.c], true, true⟩, ⟨[.int .i64 0, .slice none 0 0], true, true⟩] := List.prefix_append _ _
 have hx0 : Holds (H ++ [(⟨[.int .i64 p, u], true, true⟩ : Blk), ⟨[.int .i64 b.a, .int .i64 b.b, .int .i64 b.c], true, true⟩, ⟨[.int .i64 0, .slice none 0 0], true, true⟩]) H.length [.int .i64 p, u] := ⟨true, by simp⟩
 have hy0 : Holds (H ++ [(⟨[.int .i64 p, u], true, true⟩ : Blk), ⟨[.int .i64 b.a, .int .i64 b.b, .int .i64 b.c], true, true⟩, ⟨[.int .i64 0, .slice none 0 0], true, true⟩]) (H.length + 1) [.int .i64 b.a, .int .i64 b.b, .int .i64 b.c] := ⟨true, by simp⟩
 have hb0 : (H ++ [(⟨[.int .i64 p, u], true, true⟩ : Blk), ⟨[.int .i64 b.a, .int .i64 b.b, .int .i64 b.c], true, true⟩, ⟨[.int .i64 0, .slice none 0 0], true, true⟩])[H.length + 2]? = some ⟨[.int .i64 0, .slice none 0 0], true, true⟩ := by simp
 have hlen : (H ++ [(⟨[.int .i64 p, u], true, true⟩ : Blk), ⟨[.int .i64 b.a, .int .i64 b.b, .int .i64 b.c], true, true⟩, ⟨[.int .i64 0, .slice none 0 0], true, true⟩]).length = H.length + 3 := by simp
 generalize H ++ [(⟨[.int .i64 p, u], true, true⟩ : Blk), ⟨[.int .i64 b.a, .int .i64 b.b, .int .i64 b.c], true, true⟩, ⟨[.int .i64 0, .slice none 0 0], true, true⟩] = H0 at hp0 hx0 hy0 hb0 hlen ⊢
 have bad : ∀ (H' : Heap) (c : Int), H0 <+: H' -> rPut p bs b = ((0, []), c) ->
   storeAt H' (H.length + 2) 0 [.int .i64 0, .slice none 0 0] = some (H'.set (H.length + 2) ⟨[.int .i64 0, .slice none 0 0], true, true⟩) /\
   cellsAt (H'.set (H.length + 2) ⟨[.int .i64 0, .slice none 0 0], true, true⟩) (H.length + 2) 0 2 = some [.int .i64 0, .slice none 0 0] /\
   ∃ v', Up (H'.set (H.length + 2) ⟨[.int .i64 0, .slice none 0 0], true, true⟩) (.tuple #[.agg #[.int .i64 0, .slice none 0 0], .int .i64 c]) v' /\ Post v' (H'.set (H.length + 2) ⟨[.int .i64 0, .slice none 0 0], true, true⟩) := by
  intro H' c hp hr
  obtain ⟨q1, q2, q3, q4⟩ := put2 (cs := [.int .i64 0, .slice none 0 0]) hp0 (show H.length <= H.length + 2 by omega) hb0 rfl hp rfl rfl
  have fin := h _ (lv 3 0 0 0) q3 (by rw [hr]; exact BlocksIn.nil _ _ _)
  rw [hr] at fin
  exact ⟨q1, q2, _, Up.tuple (ys := #[sysV 0 (lv 3 0 0 0), .int .i64 c]) ⟨zeroSys, Up.refl _ _, trivial⟩, fin⟩
 refine l01Is' (hu.pre hp0) hl _ ?_
 intro H1 hp1
 obtain ⟨d0, d1, d2⟩ := (hx0.pre hp1).sys
 obtain ⟨e0, e1, e2, e3⟩ := (hy0.pre hp1).bk
 cases hs : sysB p bs with
 | false =>
  obtain ⟨q1, q2, fin⟩ := bad H1 1 hp1 (by simp [rPut, hs])
  simp (maxSteps := 1000000) [go_sem, undef, q1, q2]
  exact fin
 | true =>
  have hS := sysB_iff.1 hs
  have hp15 := hS.1
  simp (maxSteps := 1000000) [go_sem, d0, d1, d2, e0, e1, e2, e3]
  refine l01Good_ok (b := b) _ ?_
  intro H2 hp2
  have hp12 := hp1.trans hp2
  obtain ⟨d0, d1, d2⟩ := (hx0.pre hp12).sys
  obtain ⟨e0, e1, e2, e3⟩ := (hy0.pre hp12).bk
  cases hg : good p b with
  | false =>
   obtain ⟨q1, q2, fin⟩ := bad H2 2 hp12 (by simp [rPut, hs, hg])
   simp (maxSteps := 1000000) [go_sem, undef, q1, q2]
   exact fin
  | true =>
   simp (maxSteps := 1000000) [go_sem, undef, d0, d1, d2, e0, e1, e2, e3]
   refine l01Free_ok (hu.pre (hp0.trans hp12)) hS.good15 hg _ ?_
   intro H3 hp3
   have hp03 := hp12.trans hp3
   have hx3 := hx0.pre hp03
   have hy3 := hy0.pre hp03
   obtain ⟨d0, d1, d2⟩ := hx3.sys
   obtain ⟨e0, e1, e2, e3⟩ := hy3.bk
   have hle3 := hp03.length_le
   cases hf : leftB bs b with
   | false =>
    obtain ⟨q1, q2, fin⟩ := bad H3 5 hp03 (by simp [rPut, hs, hg, hf])
    simp (maxSteps := 1000000) [go_sem, undef, q1, q2]
    exact fin
   | true =>
    have hr : rPut p bs b = ((p, sortB (bs ++ [b])), 0) := by simp [rPut, hs, hg, hf]
    have hu3 := hu.pre (hp0.trans hp03)
    have hl35 := hS.2.1
    simp (maxSteps := 1000000) [go_sem, undef]
    refine AWp.drawFX (H.length + 3) mixed [7] [(0, false), (1, false), (3, false), (4, false), (6, false), (2, true), (5, true), (7, true), (8, true), (9, false), (10, false), (11, false)] (.one 0 false (.one 1 false (.one 3 false (.one 4 false (.one 6 false (.two 2 true (.two 5 true (.one 7 true (.one 8 true (.one 9 false (.one 10 false (.one 11 false .nil))))) 7 (.one 5 true (.one 8 true (.one 9 false (.one 10 false (.one 11 false .nil)))))) 7 (.one 2 true (.one 5 true (.one 8 true (.one 9 false (.one 10 false (.one 11 false .nil)))))))))))) (by kernel_rfl) ?_
    obtain ⟨j0, q0, eu, hat0, hsz0⟩ : ∃ j q, u = lv 3 j q bs.length /\ At H3 j q (tri bs) /\ bs.length <= 140737488355328 := hu3
    subst eu
    have hu3 : BlocksAt H3 (lv 3 j0 q0 bs.length) bs := ⟨j0, q0, rfl, hat0, hsz0⟩
    simp (maxSteps := 1000000) [go_sem, undef, d0, d1, d2, e0, e1, e2, e3]
    refine vTX_two ?_ ?_
    ·have hleX0 := ((List.prefix_refl H3)).length_le
     have hs0 : H3 <+: H3 ++ [⟨[], true, true⟩] := List.prefix_append _ _
     have hkA : KeepL (H.length + 3) H3 (H3 ++ [⟨[], true, true⟩]) := KeepL.of_prefix hs0 (by omega)
     have hbE : (H3 ++ [(⟨[], true, true⟩ : Blk)])[H3.length]? = some ⟨[], true, true⟩ := by simp
     have hlY0 : (H3 ++ [(⟨[], true, true⟩ : Blk)]).length = H3.length + 1 := by simp
     try simp (maxSteps := 1000000) [go_sem, undef, d0, d1, d2, e0, e1, e2, e3]
     generalize H3 ++ [(⟨[], true, true⟩ : Blk)] = HS0 at *
     refine andK_intro hkA ?_
     obtain ⟨d0, d1, d2⟩ := (hx3.pre ((List.prefix_refl H3).trans hs0)).sys
     obtain ⟨e0, e1, e2, e3⟩ := (hy3.pre ((List.prefix_refl H3).trans hs0)).bk
     have hleX1 := (((List.prefix_refl H3).trans hs0)).length_le
     refine vTX_two ?_ ?_
     ·obtain ⟨v4, HS1, hapP, hv4, hs1⟩ := emptyAppend (L := H3.length) (e := 3) (m := bs.length) (news := tri bs) (by omega) hbE (by omega) (by rw [tri_length])
      obtain ⟨a4, rfl⟩ := hv4.shape
      have hkB : KeepL (H.length + 3) HS0 HS1 := KeepL.of_prefix hs1 (by omega)
      have hsrc := tri_src (hat0.pre ((List.prefix_refl H3).trans hs0))
      simp only [srcCells, List.length_eq_zero_iff] at hsrc
      simp (maxSteps := 1000000) [go_sem, undef, hkA, hkB, hsrc, hapP, d0, d1, d2, e0, e1, e2, e3]
      refine andK_intro (by omega) ?_
      obtain ⟨d0, d1, d2⟩ := (hx3.pre (((List.prefix_refl H3).trans hs0).trans hs1)).sys
      obtain ⟨e0, e1, e2, e3⟩ := (hy3.pre (((List.prefix_refl H3).trans hs0).trans hs1)).bk
      have hleX2 := ((((List.prefix_refl H3).trans hs0).trans hs1)).length_le
      have hs2 : HS1 <+: HS1 ++ [⟨[.int .i64 b.a, .int .i64 b.b, .int .i64 b.c], true, true⟩] := List.prefix_append _ _
      have hkC : KeepL (H.length + 3) HS1 (HS1 ++ [⟨[.int .i64 b.a, .int .i64 b.b, .int .i64 b.c], true, true⟩]) := KeepL.of_prefix hs2 (by omega)
      have hcN := Holds.last HS1 [.int .i64 b.a, .int .i64 b.b, .int .i64 b.c]
      have hlY2 : (HS1 ++ [(⟨[.int .i64 b.a, .int .i64 b.b, .int .i64 b.c], true, true⟩ : Blk)]).length = HS1.length + 1 := by simp
      try simp (maxSteps := 1000000) [go_sem, undef, hkA, hkB, d0, d1, d2, e0, e1, e2, e3]
      generalize HS1 ++ [(⟨[.int .i64 b.a, .int .i64 b.b, .int .i64 b.c], true, true⟩ : Blk)] = HS2 at *
      refine andK_intro hkC ?_
      obtain ⟨d0, d1, d2⟩ := (hx3.pre ((((List.prefix_refl H3).trans hs0).trans hs1).trans hs2)).sys
      obtain ⟨e0, e1, e2, e3⟩ := (hy3.pre ((((List.prefix_refl H3).trans hs0).trans hs1).trans hs2)).bk
      replace hv4 := hv4.pre hs2
      have hv := hv4
      have hc : cellsAt HS2 HS1.length 0 3 = some [.int .i64 b.a, .int .i64 b.b, .int .i64 b.c] := by simpa using hcN.cells (n := 3) (o := 0) (by simp)
      have hleP := (((((List.prefix_refl H3).trans hs0).trans hs1).trans hs2)).length_le
      obtain ⟨v6, H6, hap, he6, hk6, hl6⟩ := hv.append (m := 1) (news := [.int .i64 b.a, .int .i64 b.b, .int .i64 b.c]) (by omega) (by omega) rfl
      obtain ⟨a6, rfl⟩ := he6.shape
      have hle := (((((List.prefix_refl H3).trans hs0).trans hs1).trans hs2)).length_le
      have hp6 : H3 <+: H6 := KeepL.prefix (((((List.prefix_refl H3).trans hs0).trans hs1).trans hs2)) (by omega) hk6 (by omega)
      have hk6' : KeepL (H.length + 3) HS2 H6 := fun k hk => hk6 k (by omega)
      have et : tri bs ++ [.int .i64 b.a, .int .i64 b.b, .int .i64 b.c] = tri (bs ++ [b]) := by rw [tri_append]; rfl
      rw [et] at he6
      obtain ⟨w6, hup6, hw6⟩ := (show OE 3 _ H6 _ (tri (bs ++ [b])) (bs ++ [b]).length by rw [List.length_append]; exact he6).blocks (by simp; omega)
      simp (maxSteps := 1000000) [go_sem, undef, hkA, hkB, hkC, hc, hap, hk6', d0, d1, d2, e0, e1, e2, e3]
      refine andK_intro (by omega) ?_
      refine ACalls.up (args' := [.int .i64 p, w6]) ⟨Up.refl _ _, hup6, trivial⟩ ?_
      refine l01Made_ok hw6.read (by simp; omega) _ ?_
      intro H7 z hp7 hz
      have hk7 : KeepL (H.length + 3) H6 H7 := KeepL.of_prefix hp7 (by have := hp6.length_le; omega)
      have az := hz.one
      obtain ⟨q1, q2, q3, q4⟩ := put2 (cs := [.int .i64 p, z]) hp0 (show H.length <= H.length + 2 by omega) hb0 rfl (hp03.trans (hp6.trans hp7)) rfl (by simp [az, one_int])
      have fin := h _ z q3 (by rw [hr, List.length_set]; exact (hz.keep q4 (fun j hj e => by have := hj.1; have := hp6.length_le; omega)).wider (by have := hp6.length_le; omega))
      rw [hr] at fin
      simp (maxSteps := 1000000) [go_sem, undef, sysV, hk7, q1, q2]
      exact ⟨_, Up.refl _ _, fin⟩
     ·have hs1 : HS0 <+: HS0 ++ [⟨[.int .i64 b.a, .int .i64 b.b, .int .i64 b.c], true, true⟩] := List.prefix_append _ _
      have hkB : KeepL (H.length + 3) HS0 (HS0 ++ [⟨[.int .i64 b.a, .int .i64 b.b, .int .i64 b.c], true, true⟩]) := KeepL.of_prefix hs1 (by omega)
      have hcN := Holds.last HS0 [.int .i64 b.a, .int .i64 b.b, .int .i64 b.c]
      have hlY1 : (HS0 ++ [(⟨[.int .i64 b.a, .int .i64 b.b, .int .i64 b.c], true, true⟩ : Blk)]).length = HS0.length + 1 := by simp
      try simp (maxSteps := 1000000) [go_sem, undef, hkA, d0, d1, d2, e0, e1, e2, e3]
      generalize HS0 ++ [(⟨[.int .i64 b.a, .int .i64 b.b, .int .i64 b.c], true, true⟩ : Blk)] = HS1 at *
      refine andK_intro hkB ?_
      obtain ⟨d0, d1, d2⟩ := (hx3.pre (((List.prefix_refl H3).trans hs0).trans hs1)).sys
      obtain ⟨e0, e1, e2, e3⟩ := (hy3.pre (((List.prefix_refl H3).trans hs0).trans hs1)).bk
      replace hbE := pget hs1 hbE
      have hleX2 := ((((List.prefix_refl H3).trans hs0).trans hs1)).length_le
      obtain ⟨v4, HS2, hapP, hv4, hs2⟩ := emptyAppend (L := H3.length) (e := 3) (m := bs.length) (news := tri bs) (by omega) hbE (by omega) (by rw [tri_length])
      obtain ⟨a4, rfl⟩ := hv4.shape
      have hkC : KeepL (H.length + 3) HS1 HS2 := KeepL.of_prefix hs2 (by omega)
      have hsrc := tri_src (hat0.pre (((List.prefix_refl H3).trans hs0).trans hs1))
      simp only [srcCells, List.length_eq_zero_iff] at hsrc
      simp (maxSteps := 1000000) [go_sem, undef, hkA, hkB, hkC, hsrc, hapP, d0, d1, d2, e0, e1, e2, e3]
      refine andK_intro (by omega) ?_
      obtain ⟨d0, d1, d2⟩ := (hx3.pre ((((List.prefix_refl H3).trans hs0).trans hs1).trans hs2)).sys
      obtain ⟨e0, e1, e2, e3⟩ := (hy3.pre ((((List.prefix_refl H3).trans hs0).trans hs1).trans hs2)).bk
      replace hcN := hcN.pre hs2
      have hv := hv4
      have hc : cellsAt HS2 HS0.length 0 3 = some [.int .i64 b.a, .int .i64 b.b, .int .i64 b.c] := by simpa using hcN.cells (n := 3) (o := 0) (by simp)
      have hleP := (((((List.prefix_refl H3).trans hs0).trans hs1).trans hs2)).length_le
      obtain ⟨v6, H6, hap, he6, hk6, hl6⟩ := hv.append (m := 1) (news := [.int .i64 b.a, .int .i64 b.b, .int .i64 b.c]) (by omega) (by omega) rfl
      obtain ⟨a6, rfl⟩ := he6.shape
      have hle := (((((List.prefix_refl H3).trans hs0).trans hs1).trans hs2)).length_le
      have hp6 : H3 <+: H6 := KeepL.prefix (((((List.prefix_refl H3).trans hs0).trans hs1).trans hs2)) (by omega) hk6 (by omega)
      have hk6' : KeepL (H.length + 3) HS2 H6 := fun k hk => hk6 k (by omega)
      have et : tri bs ++ [.int .i64 b.a, .int .i64 b.b, .int .i64 b.c] = tri (bs ++ [b]) := by rw [tri_append]; rfl
      rw [et] at he6
      obtain ⟨w6, hup6, hw6⟩ := (show OE 3 _ H6 _ (tri (bs ++ [b])) (bs ++ [b]).length by rw [List.length_append]; exact he6).blocks (by simp; omega)
      simp (maxSteps := 1000000) [go_sem, undef, hkA, hkB, hkC, hc, hap, hk6', d0, d1, d2, e0, e1, e2, e3]
      refine andK_intro (by omega) ?_
      refine ACalls.up (args' := [.int .i64 p, w6]) ⟨Up.refl _ _, hup6, trivial⟩ ?_
      refine l01Made_ok hw6.read (by simp; omega) _ ?_
      intro H7 z hp7 hz
      have hk7 : KeepL (H.length + 3) H6 H7 := KeepL.of_prefix hp7 (by have := hp6.length_le; omega)
      have az := hz.one
      obtain ⟨q1, q2, q3, q4⟩ := put2 (cs := [.int .i64 p, z]) hp0 (show H.length <= H.length + 2 by omega) hb0 rfl (hp03.trans (hp6.trans hp7)) rfl (by simp [az, one_int])
      have fin := h _ z q3 (by rw [hr, List.length_set]; exact (hz.keep q4 (fun j hj e => by have := hj.1; have := hp6.length_le; omega)).wider (by have := hp6.length_le; omega))
      rw [hr] at fin
      simp (maxSteps := 1000000) [go_sem, undef, sysV, hk7, q1, q2]
      exact ⟨_, Up.refl _ _, fin⟩
    ·have hleX0 := ((List.prefix_refl H3)).length_le
     have hs0 : H3 <+: H3 ++ [⟨[.int .i64 b.a, .int .i64 b.b, .int .i64 b.c], true, true⟩] := List.prefix_append _ _
     have hkA : KeepL (H.length + 3) H3 (H3 ++ [⟨[.int .i64 b.a, .int .i64 b.b, .int .i64 b.c], true, true⟩]) := KeepL.of_prefix hs0 (by omega)
     have hcN := Holds.last H3 [.int .i64 b.a, .int .i64 b.b, .int .i64 b.c]
     have hlY0 : (H3 ++ [(⟨[.int .i64 b.a, .int .i64 b.b, .int .i64 b.c], true, true⟩ : Blk)]).length = H3.length + 1 := by simp
     try simp (maxSteps := 1000000) [go_sem, undef, d0, d1, d2, e0, e1, e2, e3]
     rw [show H3 ++ [(⟨[.int .i64 b.a, .int .i64 b.b, .int .i64 b.c], true, true⟩ : Blk), ⟨[], true, true⟩] = (H3 ++ [⟨[.int .i64 b.a, .int .i64 b.b, .int .i64 b.c], true, true⟩]) ++ [⟨[], true, true⟩] by simp]
     generalize H3 ++ [(⟨[.int .i64 b.a, .int .i64 b.b, .int .i64 b.c], true, true⟩ : Blk)] = HS0 at *
     refine andK_intro hkA ?_
     obtain ⟨d0, d1, d2⟩ := (hx3.pre ((List.prefix_refl H3).trans hs0)).sys
     obtain ⟨e0, e1, e2, e3⟩ := (hy3.pre ((List.prefix_refl H3).trans hs0)).bk
     have hleX1 := (((List.prefix_refl H3).trans hs0)).length_le
     have hs1 : HS0 <+: HS0 ++ [⟨[], true, true⟩] := List.prefix_append _ _
     have hkB : KeepL (H.length + 3) HS0 (HS0 ++ [⟨[], true, true⟩]) := KeepL.of_prefix hs1 (by omega)
     have hbE : (HS0 ++ [(⟨[], true, true⟩ : Blk)])[HS0.length]? = some ⟨[], true, true⟩ := by simp
     have hlY1 : (HS0 ++ [(⟨[], true, true⟩ : Blk)]).length = HS0.length + 1 := by simp
     try simp (maxSteps := 1000000) [go_sem, undef, hkA, d0, d1, d2, e0, e1, e2, e3]
     generalize HS0 ++ [(⟨[], true, true⟩ : Blk)] = HS1 at *
     refine andK_intro hkB ?_
     rw [hlY0] at hbE
     obtain ⟨d0, d1, d2⟩ := (hx3.pre (((List.prefix_refl H3).trans hs0).trans hs1)).sys
     obtain ⟨e0, e1, e2, e3⟩ := (hy3.pre (((List.prefix_refl H3).trans hs0).trans hs1)).bk
     replace hcN := hcN.pre hs1
     have hleX2 := ((((List.prefix_refl H3).trans hs0).trans hs1)).length_le
     obtain ⟨v4, HS2, hapP, hv4, hs2⟩ := emptyAppend (L := H3.length) (e := 3) (m := bs.length) (news := tri bs) (by omega) hbE (by omega) (by rw [tri_length])
     obtain ⟨a4, rfl⟩ := hv4.shape
     have hkC : KeepL (H.length + 3) HS1 HS2 := KeepL.of_prefix hs2 (by omega)
     have hsrc := tri_src (hat0.pre (((List.prefix_refl H3).trans hs0).trans hs1))
     simp only [srcCells, List.length_eq_zero_iff] at hsrc
     simp (maxSteps := 1000000) [go_sem, undef, hkA, hkB, hkC, hsrc, hapP, d0, d1, d2, e0, e1, e2, e3]
     refine andK_intro (by omega) ?_
     obtain ⟨d0, d1, d2⟩ := (hx3.pre ((((List.prefix_refl H3).trans hs0).trans hs1).trans hs2)).sys
     obtain ⟨e0, e1, e2, e3⟩ := (hy3.pre ((((List.prefix_refl H3).trans hs0).trans hs1).trans hs2)).bk
     replace hcN := hcN.pre hs2
     have hv := hv4
     have hc : cellsAt HS2 H3.length 0 3 = some [.int .i64 b.a, .int .i64 b.b, .int .i64 b.c] := by simpa using hcN.cells (n := 3) (o := 0) (by simp)
     have hleP := (((((List.prefix_refl H3).trans hs0).trans hs1).trans hs2)).length_le
     obtain ⟨v6, H6, hap, he6, hk6, hl6⟩ := hv.append (m := 1) (news := [.int .i64 b.a, .int .i64 b.b, .int .i64 b.c]) (by omega) (by omega) rfl
     obtain ⟨a6, rfl⟩ := he6.shape
     have hle := (((((List.prefix_refl H3).trans hs0).trans hs1).trans hs2)).length_le
     have hp6 : H3 <+: H6 := KeepL.prefix (((((List.prefix_refl H3).trans hs0).trans hs1).trans hs2)) (by omega) hk6 (by omega)
     have hk6' : KeepL (H.length + 3) HS2 H6 := fun k hk => hk6 k (by omega)
     have et : tri bs ++ [.int .i64 b.a, .int .i64 b.b, .int .i64 b.c] = tri (bs ++ [b]) := by rw [tri_append]; rfl
     rw [et] at he6
     obtain ⟨w6, hup6, hw6⟩ := (show OE 3 _ H6 _ (tri (bs ++ [b])) (bs ++ [b]).length by rw [List.length_append]; exact he6).blocks (by simp; omega)
     simp (maxSteps := 1000000) [go_sem, undef, hkA, hkB, hkC, hc, hap, hk6', d0, d1, d2, e0, e1, e2, e3]
     refine andK_intro (by omega) ?_
     refine ACalls.up (args' := [.int .i64 p, w6]) ⟨Up.refl _ _, hup6, trivial⟩ ?_
     refine l01Made_ok hw6.read (by simp; omega) _ ?_
     intro H7 z hp7 hz
     have hk7 : KeepL (H.length + 3) H6 H7 := KeepL.of_prefix hp7 (by have := hp6.length_le; omega)
     have az := hz.one
     obtain ⟨q1, q2, q3, q4⟩ := put2 (cs := [.int .i64 p, z]) hp0 (show H.length <= H.length + 2 by omega) hb0 rfl (hp03.trans (hp6.trans hp7)) rfl (by simp [az, one_int])
     have fin := h _ z q3 (by rw [hr, List.length_set]; exact (hz.keep q4 (fun j hj e => by have := hj.1; have := hp6.length_le; omega)).wider (by have := hp6.length_le; omega))
     rw [hr] at fin
     simp (maxSteps := 1000000) [go_sem, undef, sysV, hk7, q1, q2]
     exact ⟨_, Up.refl _ _, fin⟩

end Go.Proofs.YtfnegaedkomcgaaGreat
end

section
namespace Go.Ab

theorem Bl.pushS {e : Nat} {H H' : Heap} {id n : Nat} {cs xs : List Value} (h : Bl e H H' id cs n) (he : 0 < e) (hx : xs.length = e) :
    cellsAt (H' ++ [⟨xs, true, true⟩]) H'.length 0 e = some xs /\ ∃ H3, appendH (H' ++ [⟨xs, true, true⟩]) e (lv e id 0 n) 1 xs = some (lv e (H'.length + 1) 0 (n + 1), H3) /\ Bl e H H3 (H'.length + 1) (cs ++ xs) (n + 1) /\ Same (fun j => j = id) H' H3 := by
  obtain ⟨h1, H3, h2, h3, h4, h5⟩ := h.2.1.push he hx
  refine ⟨h1, H3, h2, ⟨((Same.of_prefix h.1).trans h4).prefix (by have := h.2.2; omega), h3, ?_⟩, h4⟩
  have := h.1.length_le
  omega

end Go.Ab
namespace Go.Proofs.YtfnegaedkomcgaaGreat
open Go.Ab Go.Sort

end Go.Proofs.YtfnegaedkomcgaaGreat
end

section
namespace Go.Ab

theorem AWp.regCut {P : Program} {N : Nat} {H : Heap} {fr : Fr} {Q : Exit -> Fr -> Heap -> Prop} {St : Type} {c : Code} (N' : St -> Fr) (E : St -> Heap -> Prop)
    (hx : ∀ Q' : Exit -> Fr -> Heap -> Prop, (∀ (s : St) (fr' : Fr) (H' : Heap), upF H' (N' s ++ fr) fr' -> E s H' -> Q' .normal fr' H') -> AWp P N c Q' fr H)
    (hy : ∀ (s : St) (H' : Heap), E s H' -> Q .normal (N' s ++ fr) H') : AWp P N c Q fr H := by
  let Q1 : Exit -> Fr -> Heap -> Prop := fun e f h => match e with
    | .normal => ∃ s, upF h (N' s ++ fr) f /\ E s h
    | _ => False
  refine AWp.weak (Q := Q1) ?_ (hx Q1 fun s f h h1 h2 => ⟨s, h1, h2⟩)
  intro e f h hq
  cases e with
  | normal => obtain ⟨s, h1, h2⟩ := hq; exact ⟨_, h1, hy s h h2⟩
  | _ => exact hq.elim

theorem boxLate {Hz Hn : Heap} {id : Nat} {zs cs : List Value} (hz : Hz[id]? = some ⟨zs, true, true⟩) (hp : Hz <+: Hn) (hl : zs.length = cs.length) (ho : cs.all Value.oneCell' = true) :
    storeAt Hn id 0 cs = some (Hn.set id ⟨cs, true, true⟩) /\ Holds (Hn.set id ⟨cs, true, true⟩) id cs /\ Same (fun j => j = id) Hn (Hn.set id ⟨cs, true, true⟩) /\ (Hn.set id ⟨cs, true, true⟩).length = Hn.length := by
  have hb := pget hp hz
  refine ⟨?_, ⟨true, List.getElem?_set_self (List.getElem?_eq_some_iff.1 hb).1⟩, same_set, by simp⟩
  rw [storeAt_of hb rfl rfl (by simp [hl]) ho]
  congr 3
  simp [over, hl]

end Go.Ab
end

section
namespace Go.Proofs.YtfnegaedkomcgaaGreat
open Go.Ab Go.Sort

noncomputable def addB (acc : List Bk) (b : Bk) : List Bk := if memB acc b then acc else acc ++ [b]
def turn (v : Nat) (b : Bk) (i : Nat) : Bk := blk ((b.a + i).tmod v) ((b.b + i).tmod v) ((b.c + i).tmod v)
noncomputable def turnK (v : Nat) (acc : List Bk) (b : Bk) (k : Nat) : List Bk := (List.range k).foldl (fun acc i => addB acc (turn v b i)) acc
noncomputable def turnL (v : Nat) (acc fam : List Bk) : List Bk := fam.foldl (fun acc b => turnK v acc b v) acc

theorem addB_len (acc : List Bk) (b : Bk) : (addB acc b).length <= acc.length + 1 := by unfold addB; split <;> simp
theorem turnK_succ (v : Nat) (acc : List Bk) (b : Bk) (k : Nat) : turnK v acc b (k + 1) = addB (turnK v acc b k) (turn v b k) := by
  simp [turnK, List.range_succ, List.foldl_append]
theorem turnK_zero (v : Nat) (acc : List Bk) (b : Bk) : turnK v acc b 0 = acc := rfl
theorem turnK_len (v : Nat) (acc : List Bk) (b : Bk) (k : Nat) : (turnK v acc b k).length <= acc.length + k := by
  induction k with
  | zero => simp [turnK_zero]
  | succ k ih => rw [turnK_succ]; have := addB_len (turnK v acc b k) (turn v b k); omega
def small (b : Bk) : Prop := (0 <= b.a /\ b.a <= 900) /\ (0 <= b.b /\ b.b <= 900) /\ (0 <= b.c /\ b.c <= 900)
theorem tmod_in {x : Int} {v : Nat} (hx : 0 <= x) (hv : 1 <= v /\ v <= 15) : 0 <= x.tmod v /\ x.tmod v <= 1000 := by
  have h1 := Int.tmod_nonneg (v : Int) hx
  have h2 := Int.tmod_lt_of_pos x (show (0 : Int) < v by omega)
  omega

end Go.Proofs.YtfnegaedkomcgaaGreat
end

section
namespace Go.Proofs.YtfnegaedkomcgaaGreat
open Go.Ab Go.Sort

theorem memB_take_succ {acc : List Bk} {c : Bk} {k : Nat} (h : k < acc.length) : memB (acc.take (k + 1)) c = (memB (acc.take k) c || decide (acc[k] = c)) := by
  rw [List.take_succ_eq_append_getElem h]
  simp only [memB, List.mem_append, List.mem_singleton]
  by_cases h1 : c ∈ acc.take k
  · simp [h1]
  · by_cases h2 : acc[k] = c
    · simp [h1, h2]
    · have : ¬ c = acc[k] := fun e => h2 e.symm
      simp [h1, h2, this]

theorem l01Turned_ok {H0 H : Heap} {id v : Nat} {b : Bk} {acc : List Bk} (hv : 1 <= v /\ v <= 15) (hg : small b) (hl : acc.length <= 1000) (hbl : Bl 3 H0 H id (tri acc) acc.length) (Post : Value -> Heap -> Prop)
    (h : ∀ H' id', Bl 3 H0 H' id' (tri (turnK v acc b v)) (turnK v acc b v).length -> Post (lv 3 id' 0 (turnK v acc b v).length) H') :
    ACalls Tryz.prog 108 [lv 3 id 0 acc.length, .int .i64 v, .int .i64 b.a, .int .i64 b.b, .int .i64 b.c] H Post := by
  refine acalls_vc (rs := [.tmp 10]) Tryz.func108 rfl rfl Tryz.ntmps108 rfl rfl ?_
  simp (maxSteps := 1000000) [go_sem]
  have hv0 : (v : Int) ≠ 0 := by omega
  have hv00 : v ≠ 0 := by omega
  obtain ⟨⟨ga1, ga2⟩, ⟨gb1, gb2⟩, ⟨gc1, gc2⟩⟩ := hg
  refine AWp.loopVc (St := Nat × Nat × List Bk) (fun t => [(0, lv 3 t.2.1 0 t.2.2.length), (1, .int .i64 v), (2, .int .i64 b.a), (3, .int .i64 b.b), (4, .int .i64 b.c), (11, .int .i64 t.1)])
    (fun t H2 => t.1 <= v /\ t.2.2 = turnK v acc b t.1 /\ Bl 3 H0 H2 t.2.1 (tri t.2.2) t.2.2.length) (fun t => v - t.1) (0, id, acc) ?_ ?_ ?_
  · simp [upF, Fr.get, Up.refl]
  · exact ⟨by simp, by simp [turnK_zero], hbl⟩
  · rintro K2 ⟨t, id2, acc2⟩ H2 ⟨ht, hacc2, hbl2⟩ hK2
    simp only at ht hacc2 hbl2
    have hl2 : acc2.length <= 1015 := by
      have := turnK_len v acc b t
      rw [<- hacc2] at this
      omega
    by_cases htv : t < v
    · have hw_t : IntKind.i64.wrap ((t : Int) + 1) = (t : Int) + 1 := i64w (by omega) (by omega)
      have wa : IntKind.i64.wrap (b.a + t) = b.a + t := i64w (by omega) (by omega)
      have wb : IntKind.i64.wrap (b.b + t) = b.b + t := i64w (by omega) (by omega)
      have wc : IntKind.i64.wrap (b.c + t) = b.c + t := i64w (by omega) (by omega)
      have ma := tmod_in (x := b.a + t) (by omega) hv
      have mb := tmod_in (x := b.b + t) (by omega) hv
      have mc := tmod_in (x := b.c + t) (by omega) hv
      obtain ⟨c, hc⟩ : ∃ c, blk ((b.a + t).tmod v) ((b.b + t).tmod v) ((b.c + t).tmod v) = c := ⟨_, rfl⟩
      have hct : turn v b t = c := hc
      simp (maxSteps := 1000000) [go_sem, htv]
      refine AWp.regCut (St := Nat) (fun z => [(12, .pointer (some ⟨z, 0, none⟩)), (13, .bool false)]) (fun z H3 => H2 <+: H3 /\ Holds H3 z c.cells) ?_ ?_
      · intro Q' hQ'
        refine AWp.drawF mixed [16] [(0, false), (1, false), (2, false), (3, false), (4, false), (5, false), (6, false), (7, false), (8, false), (9, false), (10, false), (11, false), (12, false), (13, false), (14, false), (15, false), (16, true), (17, false), (18, false)] (.one 0 false (.one 1 false (.one 2 false (.one 3 false (.one 4 false (.one 5 false (.one 6 false (.one 7 false (.one 8 false (.one 9 false (.one 10 false (.one 11 false (.one 12 false (.one 13 false (.one 14 false (.two 15 false (.one 16 true (.one 17 false (.one 18 false .nil))) 16 (.one 15 false (.one 17 false (.one 18 false .nil))))))))))))))))))) (by kernel_rfl) ?_
        simp (maxSteps := 1000000) [go_sem, wa, wb, wc, hv0, hv00]
        refine vT_two ?_ ?_
        · simp (maxSteps := 1000000) [go_sem]
          refine l01Block_ok ma mb mc _ ?_
          intro H3 hp3
          rw [hc]
          simp (maxSteps := 1000000) [go_sem, Bk.val]
          refine hQ' H3.length _ _ (by simp [upF, Fr.get, Up.refl]) ⟨hp3.trans (List.prefix_append _ _), Holds.last _ _⟩
        · simp (maxSteps := 1000000) [go_sem, wa, wb, wc, hv0, hv00]
          have hpz : H2 <+: H2 ++ [⟨[.int .i64 0, .int .i64 0, .int .i64 0], true, true⟩] := List.prefix_append _ _
          have hzz : (H2 ++ [(⟨[.int .i64 0, .int .i64 0, .int .i64 0], true, true⟩ : Blk)])[H2.length]? = some ⟨[.int .i64 0, .int .i64 0, .int .i64 0], true, true⟩ := by simp
          generalize H2 ++ [(⟨[.int .i64 0, .int .i64 0, .int .i64 0], true, true⟩ : Blk)] = HZ at hpz hzz ⊢
          refine l01Block_ok ma mb mc _ ?_
          intro H3 hp3
          rw [hc]
          obtain ⟨k1, k2, k3, k4⟩ := boxLate (cs := c.cells) hzz hp3 rfl rfl
          simp only [Bk.cells] at k1
          simp (maxSteps := 1000000) [go_sem, Bk.val, k1]
          refine hQ' H2.length _ _ (by simp [upF, Fr.get, Up.refl]) ⟨?_, k2⟩
          exact ((Same.of_prefix (hpz.trans hp3)).trans k3).prefix (by rintro j hj rfl; omega)
      · rintro z H3 ⟨hp3, hz⟩
        obtain ⟨z0, z1, z2, z3⟩ := hz.bk
        have hbl3 := hbl2.pre hp3
        have hat : At H3 id2 0 (tri acc2) := hbl3.2.1.at
        have hacc3 : turnK v acc b (t + 1) = addB acc2 c := by rw [turnK_succ, hct, <- hacc2]
        simp (maxSteps := 1000000) [go_sem, z0]
        refine AWp.loopVc (St := Nat) (fun k => [(0, lv 3 id2 0 acc2.length), (1, .int .i64 v), (2, .int .i64 b.a), (3, .int .i64 b.b), (4, .int .i64 b.c), (11, .int .i64 t), (12, .pointer (some ⟨z, 0, none⟩)), (13, .bool (memB (acc2.take k) c)), (14, .int .i64 k)])
          (fun k H4 => k <= acc2.length /\ H4 = H3) (fun k => acc2.length - k) 0 ?_ ?_ ?_
        · simp [upF, Fr.get, Up.refl, memB]
        · exact ⟨by omega, rfl⟩
        · rintro K3 k H4 ⟨hk, rfl⟩ hK3
          by_cases hkl : k < acc2.length
          · have hbs : acc2[k]? = some acc2[k] := List.getElem?_eq_getElem hkl
            have c1 := hat.bk hbs
            simp only [Bk.cells, Nat.zero_add] at c1
            have hw_k : IntKind.i64.wrap ((k : Int) + 1) = (k : Int) + 1 := i64w (by omega) (by omega)
            have hsucc := memB_take_succ (c := c) hkl
            simp (maxSteps := 1000000) [go_sem, hkl]
            refine AWp.draw mixed [(0, false), (1, false), (2, false), (3, false), (4, false), (5, false), (6, false), (7, false), (8, false), (9, false)] (by kernel_rfl) ?_
            cases hm : memB (acc2.take k) c with
            | true =>
              rw [hm] at hsucc
              simp (maxSteps := 1000000) [go_sem, hw_k]
              exact hK3 (k + 1) _ _ (by omega) (by simp [upF, Fr.get, Up.refl, hsucc]) ⟨by omega, rfl⟩
            | false =>
              rw [hm, Bool.false_or] at hsucc
              simp (maxSteps := 1000000) [go_sem, hw_k, hkl, z0, c1]
              have he : decide (acc2[k] = c) = (decide (acc2[k].a = c.a) && (decide (acc2[k].b = c.b) && decide (acc2[k].c = c.c))) := by
                rw [Bool.eq_iff_iff]; simp only [decide_eq_true_eq, Bool.and_eq_true]; exact Bk.eq3 _ _
              rw [he] at hsucc
              exact hK3 (k + 1) _ _ (by omega) (by simp [upF, Fr.get, Up.refl, hsucc]) ⟨by omega, rfl⟩
          · have : k = acc2.length := by omega
            subst this
            rw [List.take_length] at *
            cases hm : memB acc2 c with
            | true =>
              simp (maxSteps := 1000000) [go_sem, hw_t]
              refine hK2 (t + 1, id2, acc2) _ _ (by simp only; omega) (by simp [upF, Fr.get, Up.refl]) ⟨by simp only; omega, ?_, hbl3⟩
              simp [hacc3, addB, hm]
            | false =>
              obtain ⟨hsrc, H5, hap, hbl5⟩ := hbl3.push (xs := c.cells) (by omega) rfl
              simp only [Bk.cells] at hsrc hap hbl5
              simp (maxSteps := 1000000) [go_sem, hw_t, z0, hsrc, hap]
              refine andK_intro (by omega) (hK2 (t + 1, H4.length + 1, acc2 ++ [c]) _ _ (by simp only; omega) (by simp [upF, Fr.get, Up.refl]) ⟨by simp only; omega, by simp [hacc3, addB, hm], ?_⟩)
              simp only [List.length_append, List.length_singleton, tri_append, tri_one, Bk.cells]
              exact hbl5
    · have : t = v := by omega
      subst this
      simp (maxSteps := 1000000) [go_sem]
      rw [hacc2] at hbl2 ⊢
      exact h _ _ hbl2

end Go.Proofs.YtfnegaedkomcgaaGreat
end

section
namespace Go.Proofs.YtfnegaedkomcgaaGreat
open Go.Ab Go.Sort

theorem upTo_asc (lo hi : Nat) : (upTo lo hi).Pairwise (· < ·) := List.pairwise_lt_range'
theorem asc_triples (v : Nat) : Asc (triples v) := by
  unfold Asc triples trip0
  rw [List.pairwise_flatMap]
  refine ⟨fun a _ => ?_, (upTo_asc 0 v).imp fun {a a'} h => ?_⟩
  · unfold trip1
    rw [List.pairwise_flatMap]
    refine ⟨fun b _ => ?_, (upTo_asc _ v).imp fun {b b'} h => ?_⟩
    · unfold trip2
      rw [List.pairwise_map]
      refine (upTo_asc _ v).imp fun {c c'} h => ?_
      rw [before_iff]; exact .inr ⟨rfl, .inr ⟨rfl, by simp only; omega⟩⟩
    · intro x hx y hy
      simp only [trip2, List.mem_map] at hx hy
      obtain ⟨c, _, rfl⟩ := hx
      obtain ⟨c', _, rfl⟩ := hy
      rw [before_iff]; exact .inr ⟨rfl, .inl (by simp only; omega)⟩
  · intro x hx y hy
    simp only [trip1, trip2, List.mem_flatMap, List.mem_map] at hx hy
    obtain ⟨b, _, c, _, rfl⟩ := hx
    obtain ⟨b', _, c', _, rfl⟩ := hy
    rw [before_iff]; exact .inl (by simp only; omega)
theorem triples_sort (v : Nat) (P : Bk -> Bool) : sortB ((triples v).filter P) = (triples v).filter P := sortB_asc ((asc_triples v).filter _)

def affB (b : Bk) : Bool := decide ((b.a / 3 + b.b / 3 + b.c / 3) % 3 = 0) && decide ((b.a + b.b + b.c) % 3 = 0)
def xorB (b : Bk) : Bool := IntKind.i64.wrap ↑(BitVec.ofInt 64 (IntKind.i64.wrap ↑(BitVec.ofInt 64 (IntKind.i64.wrap (b.a + 1)) ^^^ BitVec.ofInt 64 (IntKind.i64.wrap (b.b + 1))).toNat) ^^^ BitVec.ofInt 64 (IntKind.i64.wrap (b.c + 1))).toNat == 0

theorem aff_q1 {x y z : Nat} (hx : x < 9) (hy : y < 9) (hz : z < 9) :
    ((IntKind.i64.wrap (IntKind.i64.wrap (IntKind.i64.wrap (x / 3 : Int) + IntKind.i64.wrap (y / 3 : Int)) + IntKind.i64.wrap (z / 3 : Int))).tmod 3 == 0) = decide (((x : Int) / 3 + y / 3 + z / 3) % 3 = 0) := by
  rw [i64w (n := (x : Int) / 3) (by omega) (by omega), i64w (n := (y : Int) / 3) (by omega) (by omega), i64w (n := (z : Int) / 3) (by omega) (by omega), i64w (n := (x : Int) / 3 + y / 3) (by omega) (by omega), i64w (by omega) (by omega),
    Int.tmod_eq_emod_of_nonneg (by omega)]
  rfl
def nmSingle : List UInt8 := [115, 105, 110, 103, 108, 101]
def nmFano : List UInt8 := [102, 97, 110, 111]
def nmAffine : List UInt8 := [97, 102, 102, 105, 110, 101]
def nmCyclic13 : List UInt8 := [99, 121, 99, 108, 105, 99, 49, 51]
def nmCyclic15 : List UInt8 := [99, 121, 99, 108, 105, 99, 49, 53]
def nmProj15 : List UInt8 := [112, 114, 111, 106, 101, 99, 116, 105, 118, 101, 49, 53]

noncomputable def rNamed (s : List UInt8) : (Int × List Bk) × Int :=
  if s = nmSingle then ((3, [⟨0, 1, 2⟩]), 0)
  else if s = nmFano then ((7, sortB (turnL 7 [] [⟨0, 1, 3⟩])), 0)
  else if s = nmAffine then ((9, (triples 9).filter affB), 0)
  else if s = nmCyclic13 then ((13, sortB (turnL 13 [] [⟨0, 1, 4⟩, ⟨0, 2, 7⟩])), 0)
  else if s = nmCyclic15 then ((15, sortB (turnL 15 [] [⟨0, 1, 4⟩, ⟨0, 2, 8⟩, ⟨0, 5, 10⟩])), 0)
  else if s = nmProj15 then ((15, (triples 15).filter xorB), 0)
  else ((0, []), 4)

end Go.Proofs.YtfnegaedkomcgaaGreat
end

section
namespace Go.Proofs.YtfnegaedkomcgaaGreat
open Go.Ab Go.Sort

theorem trip_le2 (v a b k : Nat) : (trip2 v a b k).length <= k := by rw [trip2, List.length_map, upTo_length]; omega
theorem trip_le1 (v a k : Nat) (hv : v <= 15) : (trip1 v a k).length <= k * 15 := by
  induction k with
  | zero => simp [trip1, upTo_self]
  | succ k ih =>
    by_cases hak : a + 1 <= k
    · rw [trip1_succ hak, List.length_append]; have := trip_le2 v a k v; omega
    · have : trip1 v a (k + 1) = [] := by unfold trip1; rw [upTo_self (by omega)]; rfl
      rw [this]; simp
theorem trip_le0 (v k : Nat) (hv : v <= 15) (hk : k <= 15) : (trip0 v k).length <= k * 225 := by
  induction k with
  | zero => simp [trip0, upTo_self]
  | succ k ih => rw [trip0_succ, List.length_append]; have := ih (by omega); have := trip_le1 v k v hv; omega
theorem sort_one (b : Bk) : sortB [b] = [b] := sortB_asc (by simp [Asc])
theorem aff_q3 {x y z : Nat} (hx : x < 9) (hy : y < 9) (hz : z < 9) :
    ((IntKind.i64.wrap (IntKind.i64.wrap ((x : Int).tmod 3 + (y : Int).tmod 3) + (z : Int).tmod 3)).tmod 3 == 0) = decide (((x : Int) + y + z) % 3 = 0) := by
  rw [Int.tmod_eq_emod_of_nonneg (show (0 : Int) <= x by omega), Int.tmod_eq_emod_of_nonneg (show (0 : Int) <= y by omega), Int.tmod_eq_emod_of_nonneg (show (0 : Int) <= z by omega),
    i64w (n := (x : Int) % 3 + y % 3) (by omega) (by omega), i64w (by omega) (by omega), Int.tmod_eq_emod_of_nonneg (by omega), Bool.eq_iff_iff]
  simp only [beq_iff_eq, decide_eq_true_eq]
  omega

theorem end_made {H H0 H1 : Heap} {Post : Value -> Heap -> Prop} {r : (Int × List Bk) × Int} {id : Nat} {p : Int} {bs : List Bk} {w : Value} (hp0 : H <+: H0) (hid : H.length <= id) (hb0 : H0[id]? = some ⟨[.int .i64 0, .slice none 0 0], true, true⟩)
    (h : ∀ H' w, H <+: H' -> BlocksIn H.length H'.length H' w r.1.2 -> Post (.tuple #[sysV r.1.1 w, .bool (decide (r.2 = 0))]) H') {k : Nat} (hk : H0.length <= k) (hp : H0 <+: H1) (hw : BlocksIn k H1.length H1 w bs) (hr : r = ((p, bs), 0)) :
    ∃ H2, storeAt H1 id 0 [.int .i64 p, w] = some H2 /\ cellsAt H2 id 0 2 = some [.int .i64 p, w] /\ ∃ v', Up H2 (.tuple #[.agg #[.int .i64 p, w], .bool true]) v' /\ Post v' H2 := by
  obtain ⟨q1, q2, q3, q4⟩ := put2 (cs := [.int .i64 p, w]) hp0 hid hb0 rfl hp rfl (by simp [one_int, hw.one])
  have hl0 : id < H0.length := (List.getElem?_eq_some_iff.1 hb0).1
  have fin := h _ w q3 (by rw [hr, List.length_set]; exact (hw.keep q4 (fun j hj e => by have := hj.1; omega)).wider (by have := hp0.length_le; omega))
  rw [hr] at fin
  exact ⟨_, q1, q2, _, Up.refl _ _, fin⟩

theorem l01Named_ok {H : Heap} {s : ByteArray} (Post : Value -> Heap -> Prop)
    (h : ∀ H' w, H <+: H' -> BlocksIn H.length H'.length H' w (rNamed s.toList).1.2 -> Post (.tuple #[sysV (rNamed s.toList).1.1 w, .bool (decide ((rNamed s.toList).2 = 0))]) H') :
    ACalls Tryz.prog 58 [.string s] H Post := by
  refine ACalls.res ?_
  refine acalls_vc (rs := [.cell 2 26, .tmp 3]) Tryz.func58 rfl rfl Tryz.ntmps58 rfl rfl ?_
  obtain ⟨l, hl⟩ : ∃ l, s.toList = l := ⟨_, rfl⟩
  rw [hl] at h
  have hp0 : H <+: H ++ [⟨[.int .i64 0, .slice none 0 0], true, true⟩] := List.prefix_append _ _
  have hb0 : (H ++ [(⟨[.int .i64 0, .slice none 0 0], true, true⟩ : Blk)])[H.length]? = some ⟨[.int .i64 0, .slice none 0 0], true, true⟩ := by simp
  have hl0 : (H ++ [(⟨[.int .i64 0, .slice none 0 0], true, true⟩ : Blk)]).length = H.length + 1 := by simp
  have hbl0 := Bl.nil 3 (H ++ [(⟨[.int .i64 0, .slice none 0 0], true, true⟩ : Blk)])
  have eHG : (H ++ [(⟨[.int .i64 0, .slice none 0 0], true, true⟩ : Blk)]) ++ [(⟨[], true, true⟩ : Blk)] = H ++ [⟨[.int .i64 0, .slice none 0 0], true, true⟩, ⟨[], true, true⟩] := by simp
  rw [eHG, hl0] at hbl0
  generalize H ++ [(⟨[.int .i64 0, .slice none 0 0], true, true⟩ : Blk)] = H0 at hp0 hb0 hl0 hbl0
  by_cases h1 : l = nmSingle
  · subst h1
    have hr : rNamed nmSingle = ((3, [⟨0, 1, 2⟩]), 0) := by rw [rNamed, if_pos rfl]
    simp (maxSteps := 1000000) [go_sem, hl, nmSingle]
    have hpa : H ++ [(⟨[.int .i64 0, .slice none 0 0], true, true⟩ : Blk), ⟨[], true, true⟩] <+: H ++ [(⟨[.int .i64 0, .slice none 0 0], true, true⟩ : Blk), ⟨[], true, true⟩, ⟨[.int .i64 0, .int .i64 1, .int .i64 2], true, true⟩] := ⟨[⟨[.int .i64 0, .int .i64 1, .int .i64 2], true, true⟩], by simp⟩
    have hx0 : (H ++ [(⟨[.int .i64 0, .slice none 0 0], true, true⟩ : Blk), ⟨[], true, true⟩, ⟨[.int .i64 0, .int .i64 1, .int .i64 2], true, true⟩])[H.length + 2]? = some ⟨tri [⟨0, 1, 2⟩], true, true⟩ := by simp [tri, Bk.cells]
    generalize H ++ [(⟨[.int .i64 0, .slice none 0 0], true, true⟩ : Blk), ⟨[], true, true⟩, ⟨[.int .i64 0, .int .i64 1, .int .i64 2], true, true⟩] = HS at hpa hx0 ⊢
    refine ACalls.up (args' := [.int .i64 3, lv 3 (H.length + 2) 0 1]) ⟨Up.refl _ _, Up.ex (by omega) (.inr (by rw [cellsAt_of hx0 rfl (by simp [tri, Bk.cells])]; rfl)), trivial⟩ ?_
    refine l01Made_ok (v := 3) (bs := [⟨0, 1, 2⟩]) ⟨H.length + 2, 0, rfl, Holds.at ⟨true, hx0⟩, by simp⟩ (by simp) _ ?_
    intro H2 w hp2 hw
    rw [sort_one] at hw
    obtain ⟨H3, q1, q2, fin⟩ := end_made hp0 (Nat.le_refl _) hb0 h (show H0.length <= HS.length from ((hbl0.1.trans hpa)).length_le) (hbl0.1.trans (hpa.trans hp2)) hw hr
    simp (maxSteps := 1000000) [go_sem, sysV, q1, q2]
    exact fin
  have h1' : (l == [115, 105, 110, 103, 108, 101]) = false := beq_eq_false_iff_ne.2 h1
  by_cases h2 : l = nmFano
  · subst h2
    have hr : rNamed nmFano = ((7, sortB (turnL 7 [] [⟨0, 1, 3⟩])), 0) := by rw [rNamed, if_neg (by decide), if_pos rfl]
    simp (maxSteps := 1000000) [go_sem, hl, nmFano]
    generalize H ++ [(⟨[.int .i64 0, .slice none 0 0], true, true⟩ : Blk), ⟨[], true, true⟩] = HG at hbl0 ⊢
    refine ACalls.up (args' := [lv 3 (H.length + 1) 0 (([] : List Bk).length), .int .i64 (7 : Nat), .int .i64 0, .int .i64 1, .int .i64 3]) ⟨Up.ex0 _ _ _ _ _ _, Up.refl _ _, Up.refl _ _, Up.refl _ _, Up.refl _ _, trivial⟩ ?_
    refine l01Turned_ok (H0 := H0) (v := 7) (b := ⟨0, 1, 3⟩) (acc := []) (by omega) (by simp [small]) (by simp) (by simpa [tri] using hbl0) _ ?_
    intro HT0 it0 hbk0
    have hle0 := turnK_len 7 [] ⟨0, 1, 3⟩ 7
    obtain ⟨acc0, hacc0⟩ : ∃ a, turnK 7 [] ⟨0, 1, 3⟩ 7 = a := ⟨_, rfl⟩
    rw [hacc0] at hbk0 hle0 ⊢
    simp only [List.length_nil] at hle0
    have hll0 : acc0.length <= 7 := by omega
    have hee : turnL 7 [] [⟨0, 1, 3⟩] = acc0 := by simp only [turnL, List.foldl_cons, List.foldl_nil, hacc0]
    simp (maxSteps := 1000000) [go_sem]
    have hown : BlocksIn H0.length HT0.length HT0 (lv 3 it0 0 acc0.length) acc0 := OwnBlocks.inn (OwnBlocks.of_ol hbk0.2.1 (by omega)) hbk0.2.2
    refine l01Made_ok hown.read (by omega) _ ?_
    intro H2 w hp2 hw
    rw [hee] at hr
    obtain ⟨H3, q1, q2, fin⟩ := end_made hp0 (Nat.le_refl _) hb0 h hbk0.1.length_le (hbk0.1.trans hp2) hw hr
    simp (maxSteps := 1000000) [go_sem, sysV, q1, q2]
    exact fin
  have h2' : (l == [102, 97, 110, 111]) = false := beq_eq_false_iff_ne.2 h2
  by_cases h4 : l = nmCyclic13
  · subst h4
    have hr : rNamed nmCyclic13 = ((13, sortB (turnL 13 [] [⟨0, 1, 4⟩, ⟨0, 2, 7⟩])), 0) := by rw [rNamed, if_neg (by decide), if_neg (by decide), if_neg (by decide), if_pos rfl]
    simp (maxSteps := 1000000) [go_sem, hl, nmCyclic13]
    generalize H ++ [(⟨[.int .i64 0, .slice none 0 0], true, true⟩ : Blk), ⟨[], true, true⟩] = HG at hbl0 ⊢
    refine ACalls.up (args' := [lv 3 (H.length + 1) 0 (([] : List Bk).length), .int .i64 (13 : Nat), .int .i64 0, .int .i64 1, .int .i64 4]) ⟨Up.ex0 _ _ _ _ _ _, Up.refl _ _, Up.refl _ _, Up.refl _ _, Up.refl _ _, trivial⟩ ?_
    refine l01Turned_ok (H0 := H0) (v := 13) (b := ⟨0, 1, 4⟩) (acc := []) (by omega) (by simp [small]) (by simp) (by simpa [tri] using hbl0) _ ?_
    intro HT0 it0 hbk0
    have hle0 := turnK_len 13 [] ⟨0, 1, 4⟩ 13
    obtain ⟨acc0, hacc0⟩ : ∃ a, turnK 13 [] ⟨0, 1, 4⟩ 13 = a := ⟨_, rfl⟩
    rw [hacc0] at hbk0 hle0 ⊢
    simp only [List.length_nil] at hle0
    have hll0 : acc0.length <= 13 := by omega
    simp (maxSteps := 1000000) [go_sem]
    refine l01Turned_ok (v := 13) (b := ⟨0, 2, 7⟩) (acc := acc0) (by omega) (by simp [small]) (by omega) hbk0 _ ?_
    intro HT1 it1 hbk1
    have hle1 := turnK_len 13 acc0 ⟨0, 2, 7⟩ 13
    obtain ⟨acc1, hacc1⟩ : ∃ a, turnK 13 acc0 ⟨0, 2, 7⟩ 13 = a := ⟨_, rfl⟩
    rw [hacc1] at hbk1 hle1 ⊢
    have hll1 : acc1.length <= 26 := by omega
    have hee : turnL 13 [] [⟨0, 1, 4⟩, ⟨0, 2, 7⟩] = acc1 := by simp only [turnL, List.foldl_cons, List.foldl_nil, hacc0, hacc1]
    simp (maxSteps := 1000000) [go_sem]
    have hown : BlocksIn H0.length HT1.length HT1 (lv 3 it1 0 acc1.length) acc1 := OwnBlocks.inn (OwnBlocks.of_ol hbk1.2.1 (by omega)) hbk1.2.2
    refine l01Made_ok hown.read (by omega) _ ?_
    intro H2 w hp2 hw
    rw [hee] at hr
    obtain ⟨H3, q1, q2, fin⟩ := end_made hp0 (Nat.le_refl _) hb0 h hbk1.1.length_le (hbk1.1.trans hp2) hw hr
    simp (maxSteps := 1000000) [go_sem, sysV, q1, q2]
    exact fin
  have h4' : (l == [99, 121, 99, 108, 105, 99, 49, 51]) = false := beq_eq_false_iff_ne.2 h4
  by_cases h5 : l = nmCyclic15
  · subst h5
    have hr : rNamed nmCyclic15 = ((15, sortB (turnL 15 [] [⟨0, 1, 4⟩, ⟨0, 2, 8⟩, ⟨0, 5, 10⟩])), 0) := by rw [rNamed, if_neg (by decide), if_neg (by decide), if_neg (by decide), if_neg (by decide), if_pos rfl]
    simp (maxSteps := 1000000) [go_sem, hl, nmCyclic15]
    generalize H ++ [(⟨[.int .i64 0, .slice none 0 0], true, true⟩ : Blk), ⟨[], true, true⟩] = HG at hbl0 ⊢
    refine ACalls.up (args' := [lv 3 (H.length + 1) 0 (([] : List Bk).length), .int .i64 (15 : Nat), .int .i64 0, .int .i64 1, .int .i64 4]) ⟨Up.ex0 _ _ _ _ _ _, Up.refl _ _, Up.refl _ _, Up.refl _ _, Up.refl _ _, trivial⟩ ?_
    refine l01Turned_ok (H0 := H0) (v := 15) (b := ⟨0, 1, 4⟩) (acc := []) (by omega) (by simp [small]) (by simp) (by simpa [tri] using hbl0) _ ?_
    intro HT0 it0 hbk0
    have hle0 := turnK_len 15 [] ⟨0, 1, 4⟩ 15
    obtain ⟨acc0, hacc0⟩ : ∃ a, turnK 15 [] ⟨0, 1, 4⟩ 15 = a := ⟨_, rfl⟩
    rw [hacc0] at hbk0 hle0 ⊢
    simp only [List.length_nil] at hle0
    have hll0 : acc0.length <= 15 := by omega
    simp (maxSteps := 1000000) [go_sem]
    refine l01Turned_ok (v := 15) (b := ⟨0, 2, 8⟩) (acc := acc0) (by omega) (by simp [small]) (by omega) hbk0 _ ?_
    intro HT1 it1 hbk1
    have hle1 := turnK_len 15 acc0 ⟨0, 2, 8⟩ 15
    obtain ⟨acc1, hacc1⟩ : ∃ a, turnK 15 acc0 ⟨0, 2, 8⟩ 15 = a := ⟨_, rfl⟩
    rw [hacc1] at hbk1 hle1 ⊢
    have hll1 : acc1.length <= 30 := by omega
    simp (maxSteps := 1000000) [go_sem]
    refine l01Turned_ok (v := 15) (b := ⟨0, 5, 10⟩) (acc := acc1) (by omega) (by simp [small]) (by omega) hbk1 _ ?_
    intro HT2 it2 hbk2
    have hle2 := turnK_len 15 acc1 ⟨0, 5, 10⟩ 15
    obtain ⟨acc2, hacc2⟩ : ∃ a, turnK 15 acc1 ⟨0, 5, 10⟩ 15 = a := ⟨_, rfl⟩
    rw [hacc2] at hbk2 hle2 ⊢
    have hll2 : acc2.length <= 45 := by omega
    have hee : turnL 15 [] [⟨0, 1, 4⟩, ⟨0, 2, 8⟩, ⟨0, 5, 10⟩] = acc2 := by simp only [turnL, List.foldl_cons, List.foldl_nil, hacc0, hacc1, hacc2]
    simp (maxSteps := 1000000) [go_sem]
    have hown : BlocksIn H0.length HT2.length HT2 (lv 3 it2 0 acc2.length) acc2 := OwnBlocks.inn (OwnBlocks.of_ol hbk2.2.1 (by omega)) hbk2.2.2
    refine l01Made_ok hown.read (by omega) _ ?_
    intro H2 w hp2 hw
    rw [hee] at hr
    obtain ⟨H3, q1, q2, fin⟩ := end_made hp0 (Nat.le_refl _) hb0 h hbk2.1.length_le (hbk2.1.trans hp2) hw hr
    simp (maxSteps := 1000000) [go_sem, sysV, q1, q2]
    exact fin
  have h5' : (l == [99, 121, 99, 108, 105, 99, 49, 53]) = false := beq_eq_false_iff_ne.2 h5
  by_cases h3 : l = nmAffine
  · subst h3
    have hr : rNamed nmAffine = ((9, (triples 9).filter affB), 0) := by rw [rNamed, if_neg (by decide), if_neg (by decide), if_pos rfl]
    simp (maxSteps := 1000000) [go_sem, hl, nmAffine]
    generalize H ++ [(⟨[.int .i64 0, .slice none 0 0], true, true⟩ : Blk), ⟨[], true, true⟩] = HG at hbl0 ⊢
    refine AWp.loopVc (St := Nat × Nat × List Bk) (fun s => [(2, .pointer (some ⟨H.length, 0, none⟩)), (4, lv 3 s.2.1 0 s.2.2.length), (5, .int .i64 9), (6, .int .i64 s.1)])
      (fun s H' => s.1 <= 9 /\ s.2.2 = (trip0 9 s.1).filter affB /\ Bl 3 H0 H' s.2.1 (tri s.2.2) s.2.2.length) (fun s => 9 - s.1) (0, H.length + 1, []) ?_ ?_ ?_
    · simp [upF, Fr.get, Up.refl, Up.ex0]
    · exact ⟨by simp, by simp [trip0_start], by simpa [tri] using hbl0⟩
    · rintro K ⟨a, id, acc⟩ H' ⟨ha, hacc, hbl⟩ hK
      simp only at ha hacc hbl
      by_cases hlt : a < 9
      · have hw_a : IntKind.i64.wrap ((a : Int) + 1) = (a : Int) + 1 := i64w (by omega) (by omega)
        have hi_a : (a : Int) < 9 := by omega
        simp (maxSteps := 1000000) [go_sem, hlt, hi_a, hw_a]
        refine AWp.loopVc (St := Nat × Nat × List Bk) (fun s => [(2, .pointer (some ⟨H.length, 0, none⟩)), (4, lv 3 s.2.1 0 s.2.2.length), (5, .int .i64 9), (6, .int .i64 a), (7, .int .i64 s.1)])
          (fun s H' => a + 1 <= s.1 /\ s.1 <= 9 /\ s.2.2 = (trip0 9 a ++ trip1 9 a s.1).filter affB /\ Bl 3 H0 H' s.2.1 (tri s.2.2) s.2.2.length) (fun s => 9 - s.1) (a + 1, id, acc) ?_ ?_ ?_
        · simp [upF, Fr.get, Up.refl]
        · exact ⟨by simp, by simp only; omega, by simp [trip1_start, hacc], hbl⟩
        · rintro K2 ⟨b, id2, acc2⟩ H2 ⟨hab, hb, hacc2, hbl2⟩ hK2
          simp only at hab hb hacc2 hbl2
          by_cases hlt2 : b < 9
          · have hw_b : IntKind.i64.wrap ((b : Int) + 1) = (b : Int) + 1 := i64w (by omega) (by omega)
            have hi_b : (b : Int) < 9 := by omega
            simp (maxSteps := 1000000) [go_sem, hlt2, hi_b, hw_b]
            refine AWp.loopVc (St := Nat × Nat × List Bk) (fun s => [(2, .pointer (some ⟨H.length, 0, none⟩)), (4, lv 3 s.2.1 0 s.2.2.length), (5, .int .i64 9), (6, .int .i64 a), (7, .int .i64 b), (8, .int .i64 s.1)])
              (fun s H' => b + 1 <= s.1 /\ s.1 <= 9 /\ s.2.2 = (trip0 9 a ++ trip1 9 a b ++ trip2 9 a b s.1).filter affB /\ Bl 3 H0 H' s.2.1 (tri s.2.2) s.2.2.length) (fun s => 9 - s.1) (b + 1, id2, acc2) ?_ ?_ ?_
            · simp [upF, Fr.get, Up.refl]
            · exact ⟨by simp, by simp only; omega, by simp [trip2_start, hacc2], hbl2⟩
            · rintro K3 ⟨c, id3, acc3⟩ H3 ⟨hbc, hc, hacc3, hbl3⟩ hK3
              simp only at hbc hc hacc3 hbl3
              by_cases hlt3 : c < 9
              · have hw_c : IntKind.i64.wrap ((c : Int) + 1) = (c : Int) + 1 := i64w (by omega) (by omega)
                have hi_c : (c : Int) < 9 := by omega
                have hlen : acc3.length <= 10000 := by
                  rw [hacc3]
                  refine Nat.le_trans (List.length_filter_le _ _) ?_
                  simp only [List.length_append]
                  have := trip_le0 9 a (by omega) (by omega); have := trip_le1 9 a b (by omega); have := trip_le2 9 a b c
                  omega
                have hsn : ∀ l : List Bk, (l ++ trip2 9 a b (c + 1)).filter affB = (l ++ trip2 9 a b c).filter affB ++ (if affB ⟨a, b, c⟩ then [⟨a, b, c⟩] else []) := by
                  intro l
                  rw [trip2_succ hbc, <- List.append_assoc, List.filter_append (_ ++ _)]
                  congr 1
                  cases hP : affB ⟨a, b, c⟩ <;> simp [hP]
                have no : affB ⟨a, b, c⟩ = false -> ∀ fr', upF H3 [(2, .pointer (some ⟨H.length, 0, none⟩)), (4, lv 3 id3 0 acc3.length), (5, .int .i64 9), (6, .int .i64 a), (7, .int .i64 b), (8, .int .i64 (c + 1))] fr' -> K3 fr' H3 := fun hP fr' hf =>
                  hK3 (c + 1, id3, acc3) _ _ (by simp only; omega) (by simpa using hf) ⟨by simp only; omega, by simp only; omega, by simp only [hsn, hP, hacc3]; simp, hbl3⟩
                obtain ⟨hsrc, H5, hap, hbl5⟩ := hbl3.push (xs := (⟨a, b, c⟩ : Bk).cells) (by omega) rfl
                simp only [Bk.cells] at hsrc hap hbl5
                have yes : affB ⟨a, b, c⟩ = true -> ∀ fr', upF H5 [(2, .pointer (some ⟨H.length, 0, none⟩)), (4, lv 3 (H3.length + 1) 0 (acc3.length + 1)), (5, .int .i64 9), (6, .int .i64 a), (7, .int .i64 b), (8, .int .i64 (c + 1))] fr' -> K3 fr' H5 := fun hP fr' hf =>
                  hK3 (c + 1, H3.length + 1, acc3 ++ [⟨a, b, c⟩]) _ _ (by simp only; omega) (by simpa using hf) ⟨by simp only; omega, by simp only; omega, by simp only [hsn, hP, hacc3]; simp, by
                    simp only [List.length_append, List.length_singleton, tri_append, tri_one, Bk.cells]
                    exact hbl5⟩
                have e1 := aff_q1 (x := a) (y := b) (z := c) (by omega) (by omega) hlt3
                have e3 := aff_q3 (x := a) (y := b) (z := c) (by omega) (by omega) hlt3
                have he : affB ⟨a, b, c⟩ = (decide (((a : Int) / 3 + b / 3 + c / 3) % 3 = 0) && decide (((a : Int) + b + c) % 3 = 0)) := rfl
                cases hq1 : decide (((a : Int) / 3 + b / 3 + c / 3) % 3 = 0) with
                | false =>
                  rw [hq1] at e1 he
                  simp (maxSteps := 1000000) [go_sem, undef, hlt3, hi_c, hw_c, e1]
                  exact no (by rw [he]; rfl) _ (by simp [upF, Fr.get, Up.refl])
                | true =>
                  cases hq3 : decide (((a : Int) + b + c) % 3 = 0) with
                  | false =>
                    rw [hq1] at e1
                    rw [hq3] at e3
                    rw [hq1, hq3] at he
                    simp (maxSteps := 1000000) [go_sem, undef, hlt3, hi_c, hw_c, e1, e3]
                    exact no (by rw [he]; rfl) _ (by simp [upF, Fr.get, Up.refl])
                  | true =>
                    rw [hq1] at e1
                    rw [hq3] at e3
                    rw [hq1, hq3] at he
                    simp (maxSteps := 1000000) [go_sem, undef, hlt3, hi_c, hw_c, e1, e3, hsrc, hap]
                    exact andK_intro (by omega) (yes (by rw [he]; rfl) _ (by simp [upF, Fr.get, Up.refl]))
              · have : c = 9 := by omega
                subst this
                simp (maxSteps := 1000000) [go_sem, hw_b]
                exact hK2 (b + 1, id3, acc3) _ _ (by simp only; omega) (by simp [upF, Fr.get, Up.refl]) ⟨by simp only; omega, by simp only; omega, by simp only [trip1_succ hab, <- List.append_assoc]; exact hacc3, hbl3⟩
          · have : b = 9 := by omega
            subst this
            simp (maxSteps := 1000000) [go_sem, hw_a]
            exact hK (a + 1, id2, acc2) _ _ (by simp only; omega) (by simp [upF, Fr.get, Up.refl]) ⟨by simp only; omega, by simp only [trip0_succ]; exact hacc2, hbl2⟩
      · have : a = 9 := by omega
        subst this
        have hlen : acc.length <= 10000 := by
          rw [hacc]
          refine Nat.le_trans (List.length_filter_le _ _) ?_
          have := trip_le0 9 9 (by omega) (by omega)
          omega
        have hown : BlocksIn H0.length H'.length H' (lv 3 id 0 acc.length) acc := OwnBlocks.inn (OwnBlocks.of_ol hbl.2.1 (by omega)) hbl.2.2
        simp (maxSteps := 1000000) [go_sem]
        refine l01Made_ok hown.read (by omega) _ ?_
        intro H2 w hp2 hw
        have hac : acc = (triples 9).filter affB := hacc
        rw [hac, triples_sort] at hw
        obtain ⟨H3, q1, q2, fin⟩ := end_made hp0 (Nat.le_refl _) hb0 h hbl.1.length_le (hbl.1.trans hp2) hw hr
        simp (maxSteps := 1000000) [go_sem, sysV, q1, q2]
        exact fin
  have h3' : (l == [97, 102, 102, 105, 110, 101]) = false := beq_eq_false_iff_ne.2 h3
  by_cases h6 : l = nmProj15
  · subst h6
    have hr : rNamed nmProj15 = ((15, (triples 15).filter xorB), 0) := by rw [rNamed, if_neg (by decide), if_neg (by decide), if_neg (by decide), if_neg (by decide), if_neg (by decide), if_pos rfl]
    simp (maxSteps := 1000000) [go_sem, hl, nmProj15]
    generalize H ++ [(⟨[.int .i64 0, .slice none 0 0], true, true⟩ : Blk), ⟨[], true, true⟩] = HG at hbl0 ⊢
    refine AWp.loopVc (St := Nat × Nat × List Bk) (fun s => [(2, .pointer (some ⟨H.length, 0, none⟩)), (4, lv 3 s.2.1 0 s.2.2.length), (5, .int .i64 15), (6, .int .i64 s.1)])
      (fun s H' => s.1 <= 15 /\ s.2.2 = (trip0 15 s.1).filter xorB /\ Bl 3 H0 H' s.2.1 (tri s.2.2) s.2.2.length) (fun s => 15 - s.1) (0, H.length + 1, []) ?_ ?_ ?_
    · simp [upF, Fr.get, Up.refl, Up.ex0]
    · exact ⟨by simp, by simp [trip0_start], by simpa [tri] using hbl0⟩
    · rintro K ⟨a, id, acc⟩ H' ⟨ha, hacc, hbl⟩ hK
      simp only at ha hacc hbl
      by_cases hlt : a < 15
      · have hw_a : IntKind.i64.wrap ((a : Int) + 1) = (a : Int) + 1 := i64w (by omega) (by omega)
        have hi_a : (a : Int) < 15 := by omega
        simp (maxSteps := 1000000) [go_sem, hlt, hi_a, hw_a]
        refine AWp.loopVc (St := Nat × Nat × List Bk) (fun s => [(2, .pointer (some ⟨H.length, 0, none⟩)), (4, lv 3 s.2.1 0 s.2.2.length), (5, .int .i64 15), (6, .int .i64 a), (7, .int .i64 s.1)])
          (fun s H' => a + 1 <= s.1 /\ s.1 <= 15 /\ s.2.2 = (trip0 15 a ++ trip1 15 a s.1).filter xorB /\ Bl 3 H0 H' s.2.1 (tri s.2.2) s.2.2.length) (fun s => 15 - s.1) (a + 1, id, acc) ?_ ?_ ?_
        · simp [upF, Fr.get, Up.refl]
        · exact ⟨by simp, by simp only; omega, by simp [trip1_start, hacc], hbl⟩
        · rintro K2 ⟨b, id2, acc2⟩ H2 ⟨hab, hb, hacc2, hbl2⟩ hK2
          simp only at hab hb hacc2 hbl2
          by_cases hlt2 : b < 15
          · have hw_b : IntKind.i64.wrap ((b : Int) + 1) = (b : Int) + 1 := i64w (by omega) (by omega)
            have hi_b : (b : Int) < 15 := by omega
            simp (maxSteps := 1000000) [go_sem, hlt2, hi_b, hw_b]
            refine AWp.loopVc (St := Nat × Nat × List Bk) (fun s => [(2, .pointer (some ⟨H.length, 0, none⟩)), (4, lv 3 s.2.1 0 s.2.2.length), (5, .int .i64 15), (6, .int .i64 a), (7, .int .i64 b), (8, .int .i64 s.1)])
              (fun s H' => b + 1 <= s.1 /\ s.1 <= 15 /\ s.2.2 = (trip0 15 a ++ trip1 15 a b ++ trip2 15 a b s.1).filter xorB /\ Bl 3 H0 H' s.2.1 (tri s.2.2) s.2.2.length) (fun s => 15 - s.1) (b + 1, id2, acc2) ?_ ?_ ?_
            · simp [upF, Fr.get, Up.refl]
            · exact ⟨by simp, by simp only; omega, by simp [trip2_start, hacc2], hbl2⟩
            · rintro K3 ⟨c, id3, acc3⟩ H3 ⟨hbc, hc, hacc3, hbl3⟩ hK3
              simp only at hbc hc hacc3 hbl3
              by_cases hlt3 : c < 15
              · have hw_c : IntKind.i64.wrap ((c : Int) + 1) = (c : Int) + 1 := i64w (by omega) (by omega)
                have hi_c : (c : Int) < 15 := by omega
                have hlen : acc3.length <= 10000 := by
                  rw [hacc3]
                  refine Nat.le_trans (List.length_filter_le _ _) ?_
                  simp only [List.length_append]
                  have := trip_le0 15 a (by omega) (by omega); have := trip_le1 15 a b (by omega); have := trip_le2 15 a b c
                  omega
                have hsn : ∀ l : List Bk, (l ++ trip2 15 a b (c + 1)).filter xorB = (l ++ trip2 15 a b c).filter xorB ++ (if xorB ⟨a, b, c⟩ then [⟨a, b, c⟩] else []) := by
                  intro l
                  rw [trip2_succ hbc, <- List.append_assoc, List.filter_append (_ ++ _)]
                  congr 1
                  cases hP : xorB ⟨a, b, c⟩ <;> simp [hP]
                have no : xorB ⟨a, b, c⟩ = false -> ∀ fr', upF H3 [(2, .pointer (some ⟨H.length, 0, none⟩)), (4, lv 3 id3 0 acc3.length), (5, .int .i64 15), (6, .int .i64 a), (7, .int .i64 b), (8, .int .i64 (c + 1))] fr' -> K3 fr' H3 := fun hP fr' hf =>
                  hK3 (c + 1, id3, acc3) _ _ (by simp only; omega) (by simpa using hf) ⟨by simp only; omega, by simp only; omega, by simp only [hsn, hP, hacc3]; simp, hbl3⟩
                obtain ⟨hsrc, H5, hap, hbl5⟩ := hbl3.push (xs := (⟨a, b, c⟩ : Bk).cells) (by omega) rfl
                simp only [Bk.cells] at hsrc hap hbl5
                have yes : xorB ⟨a, b, c⟩ = true -> ∀ fr', upF H5 [(2, .pointer (some ⟨H.length, 0, none⟩)), (4, lv 3 (H3.length + 1) 0 (acc3.length + 1)), (5, .int .i64 15), (6, .int .i64 a), (7, .int .i64 b), (8, .int .i64 (c + 1))] fr' -> K3 fr' H5 := fun hP fr' hf =>
                  hK3 (c + 1, H3.length + 1, acc3 ++ [⟨a, b, c⟩]) _ _ (by simp only; omega) (by simpa using hf) ⟨by simp only; omega, by simp only; omega, by simp only [hsn, hP, hacc3]; simp, by
                    simp only [List.length_append, List.length_singleton, tri_append, tri_one, Bk.cells]
                    exact hbl5⟩
                have he : xorB ⟨a, b, c⟩ = (IntKind.i64.wrap ↑(BitVec.ofInt 64 (IntKind.i64.wrap ↑(BitVec.ofInt 64 (IntKind.i64.wrap ((a : Int) + 1)) ^^^ BitVec.ofInt 64 (IntKind.i64.wrap ((b : Int) + 1))).toNat) ^^^ BitVec.ofInt 64 (IntKind.i64.wrap ((c : Int) + 1))).toNat == 0) := rfl
                simp (maxSteps := 1000000) [go_sem, undef, hlt3, hi_c]
                refine condK_intro (fun hh => ?_) (fun hh => ?_)
                · simp (maxSteps := 1000000) [go_sem, hw_c, hsrc, hap]
                  exact andK_intro (by omega) (yes (by rw [he]; exact hh) _ (by simp [upF, Fr.get, Up.refl]))
                · rw [hw_c]
                  exact no (by rw [he]; exact hh) _ (by simp [upF, Fr.get, Up.refl])
              · have : c = 15 := by omega
                subst this
                simp (maxSteps := 1000000) [go_sem, hw_b]
                exact hK2 (b + 1, id3, acc3) _ _ (by simp only; omega) (by simp [upF, Fr.get, Up.refl]) ⟨by simp only; omega, by simp only; omega, by simp only [trip1_succ hab, <- List.append_assoc]; exact hacc3, hbl3⟩
          · have : b = 15 := by omega
            subst this
            simp (maxSteps := 1000000) [go_sem, hw_a]
            exact hK (a + 1, id2, acc2) _ _ (by simp only; omega) (by simp [upF, Fr.get, Up.refl]) ⟨by simp only; omega, by simp only [trip0_succ]; exact hacc2, hbl2⟩
      · have : a = 15 := by omega
        subst this
        have hlen : acc.length <= 10000 := by
          rw [hacc]
          refine Nat.le_trans (List.length_filter_le _ _) ?_
          have := trip_le0 15 15 (by omega) (by omega)
          omega
        have hown : BlocksIn H0.length H'.length H' (lv 3 id 0 acc.length) acc := OwnBlocks.inn (OwnBlocks.of_ol hbl.2.1 (by omega)) hbl.2.2
        simp (maxSteps := 1000000) [go_sem]
        refine l01Made_ok hown.read (by omega) _ ?_
        intro H2 w hp2 hw
        have hac : acc = (triples 15).filter xorB := hacc
        rw [hac, triples_sort] at hw
        obtain ⟨H3, q1, q2, fin⟩ := end_made hp0 (Nat.le_refl _) hb0 h hbl.1.length_le (hbl.1.trans hp2) hw hr
        simp (maxSteps := 1000000) [go_sem, sysV, q1, q2]
        exact fin
  have h6' : (l == [112, 114, 111, 106, 101, 99, 116, 105, 118, 101, 49, 53]) = false := beq_eq_false_iff_ne.2 h6
  have hr : rNamed l = ((0, []), 4) := by rw [rNamed, if_neg h1, if_neg h2, if_neg h3, if_neg h4, if_neg h5, if_neg h6]
  simp (maxSteps := 1000000) [go_sem, hl, h1', h2', h3', h4', h5', h6']
  refine ⟨_, Up.tuple (ys := #[sysV 0 (lv 3 0 0 0), .bool false]) ⟨zeroSys, Up.refl _ _, trivial⟩, ?_⟩
  rw [hr] at h
  exact h _ (lv 3 0 0 0) (List.prefix_append _ _) (BlocksIn.nil _ _ _)

end Go.Proofs.YtfnegaedkomcgaaGreat
end

section
namespace Go.Ab
open Go.RowKit (Below)

section
variable {P : Program} {N : Nat} {ops : Array Oper} {K : Fr -> Heap -> Prop} {fs : List Nat}

inductive TreeG
  | nil
  | one (i : Nat) (fl : Bool) (t : TreeG)
  | alt (f : Nat) (t' : TreeG) (t : TreeG)
def vG (P : Program) (N : Nat) (ops : Array Oper) (K : Fr -> Heap -> Prop) : TreeG -> Fr -> Heap -> Prop
  | .nil, fr, H => K fr H
  | .one i fl t, fr, H => match ops[i]? with
    | none => False
    | some o => match isR o.op with
      | true => vstep P N ops o (vG P N ops K t) fr H
      | false => vstep P N ops o (eK fl H (vG P N ops K t)) fr H
  | .alt f t' t, fr, H => match ops[f]? with
    | some o' => vstep P N ops o' (eK true H (vG P N ops K t')) fr H /\ vG P N ops K t fr H
    | none => False
def treeGOK (ops : Array Oper) (fs : List Nat) : TreeG -> List Nat -> List (Nat × Bool) -> Bool
  | .nil, _, l => l.isEmpty
  | .one i fl t, cov, (j, fl') :: l => i == j && fl == fl' && ((match ops[i]? with | some o => isR o.op | none => false) || fs.all fun f => cov.contains f || !(l.map (·.1)).contains f) && treeGOK ops fs t [] l
  | .alt f t' t, cov, (j, fl') :: l => (match ops[f]? with | some o' => !isR o'.op | none => false) && decide ((l.filter fun y => y.1 != f).length < l.length) && treeGOK ops fs t' [] ((j, fl') :: l.filter fun y => y.1 != f) && treeGOK ops fs t (f :: cov) ((j, fl') :: l)
  | _, _, [] => false
def vGK (P : Program) (N : Nat) (ops : Array Oper) (K : Fr -> Heap -> Prop) (t : TreeG) (fr : Fr) (H : Heap) : Prop := vG P N ops K t fr H
def eGK (P : Program) (N : Nat) (ops : Array Oper) (K : Fr -> Heap -> Prop) (t : TreeG) (fl : Bool) (H : Heap) (fr : Fr) (H' : Heap) : Prop :=
  match fl with
  | true => andK (H <+: H') (vG P N ops K t fr H')
  | false => vG P N ops K t fr H'
def vGo (P : Program) (N : Nat) (ops : Array Oper) (K : Fr -> Heap -> Prop) (t : TreeG) (fl : Bool) (fr : Fr) (H : Heap) (o : Oper) : Prop :=
  match isR o.op with
  | true => vstep P N ops o (vGK P N ops K t) fr H
  | false => vstep P N ops o (eGK P N ops K t fl H) fr H
def vGe (P : Program) (N : Nat) (ops : Array Oper) (K : Fr -> Heap -> Prop) (t : TreeG) (fl : Bool) (fr : Fr) (H : Heap) (o : Oper) : Prop := vstep P N ops o (eGK P N ops K t fl H) fr H
theorem vG_nil (K : Fr -> Heap -> Prop) (fr : Fr) (H : Heap) : vG P N ops K .nil fr H = K fr H := rfl
theorem eGK_eq (K : Fr -> Heap -> Prop) (t : TreeG) (fl : Bool) (H : Heap) : eK fl H (vG P N ops K t) = eGK P N ops K t fl H := by
  funext f h
  cases fl <;> rfl
theorem vG_one (K : Fr -> Heap -> Prop) (i : Nat) (fl : Bool) (t : TreeG) (fr : Fr) (H : Heap) : vG P N ops K (.one i fl t) fr H = bindO ops[i]? (vGo P N ops K t fl fr H) := by
  simp only [vG]
  cases ops[i]? with
  | none => simp [bindO]
  | some o =>
    simp only [bindO_some, vGo]
    cases isR o.op with
    | true => rfl
    | false => simp only [eGK_eq]
attribute [go_sem] vGK eGK vGo vGe vG_nil vG_one

end
end Go.Ab
end

section
namespace Go.Proofs.YtfnegaedkomcgaaGreat
open Go.Ab Go.Sort

def oneTest (l : List (Nat × Bk)) : Bool := !fullB 3 (l.map (·.2)) || decide (l.map (·.2) = [⟨0, 1, 2⟩])
theorem one3 : goSub okM oneTest (candM 3) [] = true := by decide +kernel
theorem upI_get {v a : Nat} {x : Int} (h : (upI v)[a]? = some x) : x = a /\ a < v := by
  simp only [upI, List.getElem?_map, Option.map_eq_some_iff] at h
  obtain ⟨y, hy, rfl⟩ := h
  obtain ⟨hl, e⟩ := List.getElem?_eq_some_iff.1 hy
  simp at hl e
  subst e
  exact ⟨rfl, hl⟩
theorem upI_rises (v : Nat) : Rises v (upI v) := by
  intro a x hx
  have := upI_get hx
  exact ⟨by omega, fun y ha hy => by have := upI_get hy; omega⟩

end Go.Proofs.YtfnegaedkomcgaaGreat
end

section
namespace Go.Proofs.YtfnegaedkomcgaaGreat
open Go.Ab Go.Sort

theorem pairs_room {v : Nat} {bs : List Bk} (hv : v < 16) (hg : ∀ b ∈ bs, good v b = true) (hc : bs.Pairwise fun x y => common x y <= 1) : 6 * bs.length <= v * (v - 1) := by
  have hnd : (bs.flatMap blkP).Nodup := by
    unfold List.Nodup
    rw [List.pairwise_flatMap]
    constructor
    · intro b hb
      have := good_iff.1 (hg b hb)
      refine List.pairwise_cons.2 ⟨?_, List.pairwise_cons.2 ⟨?_, List.pairwise_singleton _ _⟩⟩
      · intro x hx
        simp only [List.mem_cons, List.not_mem_nil, or_false] at hx
        rcases hx with rfl | rfl <;> omega
      · intro x hx
        simp only [List.mem_cons, List.not_mem_nil, or_false] at hx
        subst hx; omega
    · refine List.Pairwise.imp_of_mem ?_ hc
      intro y x hy hx hcm
      have gx := good_iff.1 (hg _ hx)
      have gy := good_iff.1 (hg _ hy)
      rw [common_comm] at hcm
      have hcc := (common_le_one (w := v) (hg _ hx)).1 hcm
      simp only [Bk.has_iff] at hcc
      intro m hm n hn e
      subst e
      simp only [blkP, List.mem_cons, List.not_mem_nil, or_false] at hm hn
      obtain ⟨c1, c2, c3⟩ := hcc
      rcases hm with hm | hm | hm
      · refine c1 ⟨?_, ?_⟩ <;> rcases hn with hn | hn | hn <;> omega
      · refine c2 ⟨?_, ?_⟩ <;> rcases hn with hn | hn | hn <;> omega
      · refine c3 ⟨?_, ?_⟩ <;> rcases hn with hn | hn | hn <;> omega
  have hsub : ∀ x ∈ bs.flatMap blkP, x ∈ allP v := by
    intro x hx
    obtain ⟨b, hb, hx⟩ := List.mem_flatMap.1 hx
    have := good_iff.1 (hg b hb)
    simp only [blkP, List.mem_cons, List.not_mem_nil, or_false] at hx
    rcases hx with rfl | rfl | rfl
    · exact mem_allP (by omega) (by omega)
    · exact mem_allP (by omega) (by omega)
    · exact mem_allP (by omega) (by omega)
  have h1 := sub_len _ _ hnd hsub
  have h2 := allP_length v hv
  rw [flatP_length] at h1
  omega
theorem room35 {p : Int} {bs : List Bk} (hp : 3 <= p /\ p <= 15) (hg : ∀ b ∈ bs, good p b = true) (hc : bs.Pairwise fun x y => common x y <= 1) : bs.length <= 35 := by
  obtain ⟨v, rfl⟩ : ∃ n : Nat, p = n := ⟨p.toNat, by omega⟩
  have h := pairs_room (by omega) hg hc
  have : v * (v - 1) <= 15 * 14 := Nat.mul_le_mul (by omega) (by omega)
  omega
theorem sys_perm {p : Int} {l : List Bk} (hp : 3 <= p /\ p <= 15) (hg : ∀ b ∈ l, good p b = true) (hc : l.Pairwise fun x y => common x y <= 1) : IsSys p (sortB l) := sys_of_perm hp (room35 hp hg hc) hg hc

theorem rPut_done {p : Int} {bs : List Bk} {b : Bk} (h : (rPut p bs b).2 = 0) : IsSys p bs /\ good p b = true /\ leftB bs b = true /\ (rPut p bs b).1 = (p, sortB (bs ++ [b])) := by
  unfold rPut at h ⊢
  cases hs : sysB p bs with
  | false => rw [hs] at h; simp at h
  | true =>
    cases hg : good p b with
    | false => rw [hs, hg] at h; simp at h
    | true =>
      cases hl : leftB bs b with
      | false => rw [hs, hg, hl] at h; simp at h
      | true => exact ⟨sysB_iff.1 hs, rfl, rfl, by simp⟩
theorem put_sys {p : Int} {bs : List Bk} {b : Bk} (hS : IsSys p bs) (hg : good p b = true) (hl : leftB bs b = true) : IsSys p (sortB (bs ++ [b])) := by
  refine sys_perm hS.1 ?_ ?_
  · intro x hx
    rcases List.mem_append.1 hx with hx | hx
    · exact hS.good x hx
    · simp at hx; subst hx; exact hg
  · rw [List.pairwise_append]
    refine ⟨pair_of_fits hS.2.2.2, List.pairwise_singleton _ _, ?_⟩
    intro x hx y hy
    simp at hy; subst hy
    exact (leftB_iff hS.good hg).1 hl x hx
theorem without_eq {m : List Bk} {b : Bk} {i : Nat} (h : m[i]? = some b) : m.Perm (b :: without m i) := by
  obtain ⟨hi, rfl⟩ := List.getElem?_eq_some_iff.1 h
  have e : m = m.take i ++ m[i] :: m.drop (i + 1) := by
    rw [List.getElem_cons_drop]
    exact (List.take_append_drop i m).symm
  unfold without
  conv => lhs; rw [e]
  exact List.perm_middle
theorem without_sub (m : List Bk) (i : Nat) : (without m i).Sublist m := by
  unfold without
  conv => rhs; rw [<- List.take_append_drop i m]
  refine List.Sublist.append (List.Sublist.refl _) ?_
  rw [show m.drop (i + 1) = (m.drop i).drop 1 by rw [List.drop_drop]]
  exact List.drop_sublist _ _
theorem put_take {p : Int} {bs : List Bk} {b : Bk} (h : (rPut p bs b).2 = 0) {i : Nat} (hi : (rPut p bs b).1.2[i]? = some b) : rTake p (rPut p bs b).1.2 i = ((p, bs), 0) := by
  obtain ⟨hS, hg, hl, hr⟩ := rPut_done h
  rw [hr] at hi ⊢
  simp only at hi ⊢
  have hP := put_sys hS hg hl
  have hil := (List.getElem?_eq_some_iff.1 hi).1
  have h1 : inP ((sortB (bs ++ [b])).length : Int) (i : Int) = true := by
    simp only [inP, Bool.and_eq_true, decide_eq_true_eq]; omega
  rw [rTake, sysB_iff.2 hP, if_pos rfl, if_pos h1, Int.toNat_natCast]
  have h2 := without_eq hi
  have h3 : (b :: without (sortB (bs ++ [b])) i).Perm (b :: bs) := h2.symm.trans ((sortB_perm _ _ rfl).trans (List.perm_append_comm (l₁ := bs) (l₂ := [b])))
  have h4 := h3.cons_inv
  have h5 : (without (sortB (bs ++ [b])) i).Pairwise fun x y => before y x = false := (sortB_sorted _ _ rfl).sublist (without_sub _ _)
  have h6 : bs.Pairwise fun x y => before y x = false := asc_weak (asc_of _ rfl hS.2.2.1)
  have e : without (sortB (bs ++ [b])) i = bs := (sort_uniq h4 h5).trans (sort_uniq (List.Perm.refl _) h6).symm
  rw [e]
theorem put_at {p : Int} {bs : List Bk} {b : Bk} (h : (rPut p bs b).2 = 0) : ∃ i : Nat, (rPut p bs b).1.2[i]? = some b := by
  obtain ⟨hS, hg, hl, hr⟩ := rPut_done h
  rw [hr]
  exact List.mem_iff_getElem?.1 ((sortB_perm _ _ rfl).mem_iff.2 (by simp))
theorem put_free {p : Int} {bs : List Bk} {b : Bk} (h : (rPut p bs b).2 = 0) : (rFree p bs).2 = 0 /\ b ∈ (rFree p bs).1 := by
  obtain ⟨hS, hg, hl, hr⟩ := rPut_done h
  have hp := hS.1
  obtain ⟨v, rfl⟩ : ∃ n : Nat, p = n := ⟨p.toNat, by omega⟩
  rw [rFree, sysB_iff.2 hS]
  simp only [if_true, Int.toNat_natCast, true_and]
  exact List.mem_filter.2 ⟨triples_mem hg, hl⟩

/-! Renumbering. -/
theorem rRen_done {p : Int} {bs : List Bk} {xs : List Int} (h : (rRen p bs xs).2 = 0) : IsSys p bs /\ OrdL p xs /\ (rRen p bs xs).1 = (p, sortB (bs.map (renB xs))) := by
  unfold rRen at h ⊢
  cases hs : sysB p bs with
  | false => rw [hs] at h; simp at h
  | true =>
    by_cases ho : OrdL p xs
    · exact ⟨sysB_iff.1 hs, ho, by simp [ho]⟩
    · rw [hs] at h; simp [ho] at h
theorem ord_nth {p : Int} {xs : List Int} (hO : OrdL p xs) {a : Int} (h0 : 0 <= a) (h1 : a < p) : xs[a.toNat]? = some (nthI xs a) /\ 0 <= nthI xs a /\ nthI xs a < p := by
  have hl : a.toNat < xs.length := by have := hO.1; omega
  have e : xs[a.toNat]? = some (nthI xs a) := by
    have := nthI_in hl
    rwa [Int.toNat_of_nonneg h0] at this
  exact ⟨e, hO.2.2 _ (List.mem_of_getElem? e)⟩
theorem ord_inj {p : Int} {xs : List Int} (hO : OrdL p xs) {a b : Int} (h0 : 0 <= a) (h1 : a < p) (g0 : 0 <= b) (g1 : b < p) : nthI xs a = nthI xs b ↔ a = b := by
  constructor
  · intro e
    have ha := (ord_nth hO h0 h1).1
    have hb := (ord_nth hO g0 g1).1
    rw [e, <- hb] at ha
    have := (List.getElem?_inj (by have := hO.1; omega) hO.2.1).1 ha
    omega
  · rintro rfl; rfl
theorem blk_has (a b c q : Int) : (blk a b c).has q = true ↔ a = q \/ b = q \/ c = q := by
  have h := (blk_perm a b c).mem_iff (a := q)
  simp only [Bk.list, List.mem_cons, List.not_mem_nil, or_false] at h
  rw [Bk.has_iff]
  constructor
  · intro e
    have := h.1 (by rcases e with e | e | e <;> simp [e])
    rcases this with e | e | e <;> simp [e]
  · intro e
    have := h.2 (by rcases e with e | e | e <;> simp [e])
    rcases this with e | e | e <;> simp [e]
theorem ren_has {p : Int} {xs : List Int} (hO : OrdL p xs) {b : Bk} (hg : good p b = true) {q : Int} (h0 : 0 <= q) (h1 : q < p) : (renB xs b).has (nthI xs q) = b.has q := by
  have g := good_iff.1 hg
  apply Bool.eq_iff_iff.2
  rw [renB, blk_has, Bk.has_iff, ord_inj hO (by omega) (by omega) h0 h1, ord_inj hO (by omega) (by omega) h0 h1, ord_inj hO (by omega) (by omega) h0 h1]
theorem ren_good {p : Int} {xs : List Int} (hO : OrdL p xs) {b : Bk} (hg : good p b = true) : good p (renB xs b) = true := by
  have g := good_iff.1 hg
  have e1 := ord_nth hO (a := b.a) (by omega) (by omega)
  have e2 := ord_nth hO (a := b.b) (by omega) (by omega)
  have e3 := ord_nth hO (a := b.c) (by omega) (by omega)
  refine blk_good.2 ⟨e1.2, e2.2, e3.2, ?_, ?_, ?_⟩
  · intro e; have := (ord_inj hO (by omega) (by omega) (by omega) (by omega)).1 e; omega
  · intro e; have := (ord_inj hO (by omega) (by omega) (by omega) (by omega)).1 e; omega
  · intro e; have := (ord_inj hO (by omega) (by omega) (by omega) (by omega)).1 e; omega
theorem hasN_ren {p : Int} {xs : List Int} (hO : OrdL p xs) {x : Bk} (hx : good p x = true) {q : Int} (h0 : 0 <= q) (h1 : q < p) : hasN (renB xs x) (nthI xs q) = hasN x q := by
  rw [hasN_eq (ren_good hO hx), hasN_eq hx, ren_has hO hx h0 h1]
theorem hasN3 {v : Int} {x : Bk} (hx : good v x = true) {a b c : Int} : hasN x (blk a b c).a + hasN x (blk a b c).b + hasN x (blk a b c).c = hasN x a + hasN x b + hasN x c := by
  have h := ((blk_perm a b c).map (fun q => hasN x q)).sum_nat
  simp only [Bk.list, List.map_cons, List.map_nil, List.sum_cons, List.sum_nil] at h
  omega
theorem ren_common {p : Int} {xs : List Int} (hO : OrdL p xs) {x y : Bk} (hx : good p x = true) (hy : good p y = true) : common (renB xs x) (renB xs y) = common x y := by
  have g := good_iff.1 hy
  rw [common_eq, common_eq x y]
  rw [show renB xs y = blk (nthI xs y.a) (nthI xs y.b) (nthI xs y.c) from rfl, hasN3 (ren_good hO hx), hasN_ren hO hx (by omega) (by omega), hasN_ren hO hx (by omega) (by omega), hasN_ren hO hx (by omega) (by omega)]
theorem ren_sys {p : Int} {bs : List Bk} {xs : List Int} (hS : IsSys p bs) (hO : OrdL p xs) : IsSys p (sortB (bs.map (renB xs))) := by
  refine sys_perm hS.1 ?_ ?_
  · intro x hx
    obtain ⟨b, hb, rfl⟩ := List.mem_map.1 hx
    exact ren_good hO (hS.good b hb)
  · rw [List.pairwise_map]
    refine List.Pairwise.imp_of_mem ?_ (pair_of_fits hS.2.2.2)
    intro x y hx hy hc
    rwa [ren_common hO (hS.good x hx) (hS.good y hy)]
theorem ren_count {p : Int} {bs : List Bk} {xs : List Int} (hg : ∀ b ∈ bs, good p b = true) (hO : OrdL p xs) {q : Int} (h0 : 0 <= q) (h1 : q < p) : (sortB (bs.map (renB xs))).countP (·.has (nthI xs q)) = bs.countP (·.has q) := by
  rw [(sortB_perm _ (bs.map (renB xs)) rfl).countP_eq, List.countP_map]
  apply List.countP_congr
  intro b hb
  simp only [Function.comp]
  rw [ren_has hO (hg b hb) h0 h1]
theorem degrees_get {v : Nat} {bs : List Bk} {a : Nat} (h : a < v) : (degrees v bs)[a]? = some ((bs.countP (·.has (a : Int)) : Nat) : Int) := by
  simp [degrees, h]
theorem ren_degrees {v : Nat} {bs : List Bk} {xs : List Int} (hS : IsSys v bs) (hO : OrdL v xs) {a : Nat} (ha : a < v) : ∃ x : Nat, xs[a]? = some (x : Int) /\ x < v /\ (degrees v (sortB (bs.map (renB xs))))[x]? = (degrees v bs)[a]? := by
  have h := ord_nth hO (a := (a : Int)) (by omega) (by omega)
  have hc := ren_count (xs := xs) hS.good hO (q := (a : Int)) (by omega) (by omega)
  obtain ⟨x, hx⟩ : ∃ n : Nat, nthI xs a = n := ⟨(nthI xs a).toNat, by omega⟩
  rw [hx] at h hc
  rw [Int.toNat_natCast] at h
  refine ⟨x, h.1, by omega, ?_⟩
  rw [degrees_get (by omega), degrees_get ha, hc]
theorem plc_upI {v : Nat} {q : Int} (h0 : 0 <= q) (h1 : q < v) : plc (upI v) q = q := by
  obtain ⟨n, rfl⟩ : ∃ n : Nat, q = n := ⟨q.toNat, by omega⟩
  refine plc_at ?_ ?_
  · simp [upI, show n < v by omega]
  · intro y hy e
    obtain ⟨j, hj⟩ := List.mem_iff_getElem?.1 hy
    rw [List.getElem?_take] at hj
    split at hj
    · have := upI_get hj; omega
    · cases hj
theorem onB_upI {v : Nat} : ∀ {bs : List Bk}, (∀ b ∈ bs, good v b = true) -> onB (upI v) bs = bs
  | [], _ => rfl
  | b :: bs, h => by
    have g := good_iff.1 (h b (by simp))
    have ih := onB_upI (v := v) (bs := bs) fun x hx => h x (by simp [hx])
    unfold onB at ih ⊢
    rw [List.flatMap_cons, ih, plc_upI (by omega) (by omega), plc_upI (by omega) (by omega), plc_upI (by omega) (by omega)]
    simp [g.1, show 0 <= b.b by omega, show 0 <= b.c by omega]
theorem on_whole {v : Nat} {bs : List Bk} (hS : IsSys v bs) : rOn v bs (upI v) = (((v : Int), bs), (0 : Int)) := by
  have hr : setCode v bs (upI v) = 0 := by
    unfold setCode
    rw [sysB_iff.2 hS]
    simp [upI_rises v]
  rw [rOn, if_pos hr, if_pos (by rw [upI_length]; have := hS.1; omega), onB_upI hS.good, upI_length]
theorem common_self_list {p : Int} {bs : List Bk} (hS : IsSys p bs) : rCommon p bs p bs = (bs, 0) := by
  rw [rCommon, sysB_iff.2 hS]
  simp only [Bool.and_self, if_true, Prod.mk.injEq, and_true]
  rw [List.filter_eq_self]
  intro b hb
  simp [memB, hb]

end Go.Proofs.YtfnegaedkomcgaaGreat
end

section
namespace Go.Proofs.YtfnegaedkomcgaaGreat
open Go.Ab

structure Drawn (p : Int) (bs : List Bk) : Prop where
  pts : 3 <= p /\ p <= 15
  len : bs.length <= 200
  good : ∀ b ∈ bs, good p b = true
theorem Drawn.good15 {p : Int} {bs : List Bk} (h : Drawn p bs) : ∀ b ∈ bs, Ab.good 15 b = true := fun b hb => by
  have := good_iff.1 (h.good b hb)
  have := h.pts
  exact good_iff.2 ⟨by omega, by omega, by omega, by omega⟩

theorem pick_ok {L s : Nat} {H : Heap} (hs : Src L s H) {id : Nat} {xs : List Int} (hb : H[id]? = some ⟨ints xs, true, true⟩) (hid : id ≠ s) (hne : 0 < xs.length) (hxl : xs.length <= 1000) (Post : Value -> Heap -> Prop)
    (h : ∀ (H' : Heap) (x : Int), Same (fun j => j = s) H H' -> H'.length = H.length -> Src L s H' -> x ∈ xs -> Post (.int .i64 x) H') :
    ACalls Tryz.prog 69 [.pointer (some ⟨s, 0, none⟩), .slice (some ⟨id, 0, none⟩) xs.length xs.length] H Post := by
  refine acalls_vc (rs := [.tmp 4]) Tryz.func69 rfl rfl Tryz.ntmps69 rfl rfl ?_
  simp (maxSteps := 1000000) [go_sem]
  refine next_ok hs _ ?_
  intro H' r hs1 hl1 hS1 h0 h1
  obtain ⟨r, rfl⟩ : ∃ n : Nat, r = n := ⟨r.toNat, by omega⟩
  have hr : r < xs.length := by omega
  have hb1 := hs1.get hb hid
  have lc : cellsAt H' id r 1 = some [.int .i64 xs[r]] := Holds.cell ⟨true, hb1⟩ (by simp [ints, hr])
  simp (maxSteps := 1000000) [go_sem, hr, lc]
  exact h H' _ hs1 hl1 hS1 (List.getElem_mem hr)

theorem l01RenamedG_ok {H : Heap} {u w : Value} {p : Int} {bs : List Bk} {xs : List Int} (hu : BlocksAt H u bs) (hw : IntsAt H w xs) (hpx : 3 <= p /\ p <= 15) (hlb : bs.length <= 1000) (hgd : ∀ b ∈ bs, good p b = true) (hO : OrdL p xs) (Post : Value -> Heap -> Prop)
    (h : ∀ H' z, H <+: H' -> BlocksIn H.length H'.length H' z (sortB (bs.map (renB xs))) -> Post (sysV p z) H') :
    ACalls Tryz.prog 81 [sysV p u, w] H Post := by
  obtain ⟨i, o, rfl, h1, h2⟩ := hu
  obtain ⟨j, q, rfl, h3, h4⟩ := hw
  have hxl : (xs.length : Int) = p := hO.1
  refine acalls_vc (rs := [.cell 4 26]) Tryz.func81 rfl rfl Tryz.ntmps81 rfl rfl ?_
  simp (maxSteps := 1000000) [go_sem, sysV]
  have hp0 : H <+: H ++ [⟨[.int .i64 p, lv 3 i o bs.length], true, true⟩, ⟨[.int .i64 0, .slice none 0 0], true, true⟩] := List.prefix_append _ _
  have hx0 : Holds (H ++ [⟨[.int .i64 p, lv 3 i o bs.length], true, true⟩, ⟨[.int .i64 0, .slice none 0 0], true, true⟩]) H.length [.int .i64 p, lv 3 i o bs.length] := ⟨true, by simp⟩
  have hb0 : (H ++ [(⟨[.int .i64 p, lv 3 i o bs.length], true, true⟩ : Blk), ⟨[.int .i64 0, .slice none 0 0], true, true⟩])[H.length + 1]? = some ⟨[.int .i64 0, .slice none 0 0], true, true⟩ := by simp
  have hlen0 : (H ++ [(⟨[.int .i64 p, lv 3 i o bs.length], true, true⟩ : Blk), ⟨[.int .i64 0, .slice none 0 0], true, true⟩]).length = H.length + 2 := by simp
  rw [show H ++ [(⟨[.int .i64 p, lv 3 i o bs.length], true, true⟩ : Blk), ⟨[.int .i64 0, .slice none 0 0], true, true⟩, ⟨[], true, true⟩] = (H ++ [(⟨[.int .i64 p, lv 3 i o bs.length], true, true⟩ : Blk), ⟨[.int .i64 0, .slice none 0 0], true, true⟩]) ++ [⟨[], true, true⟩] by simp]
  generalize H ++ [(⟨[.int .i64 p, lv 3 i o bs.length], true, true⟩ : Blk), ⟨[.int .i64 0, .slice none 0 0], true, true⟩] = H0 at hp0 hx0 hb0 hlen0 ⊢
  have hbl0 := Bl.nil 3 H0
  generalize H0 ++ [(⟨[], true, true⟩ : Blk)] = HG at hbl0 ⊢
  refine AWp.loopVc (St := Nat × Nat) (fun s => [(1, lv 1 j q xs.length), (2, .pointer (some ⟨H.length, 0, none⟩)), (4, .pointer (some ⟨H.length + 1, 0, none⟩)), (5, lv 3 s.2 0 s.1), (6, .int .i64 s.1)])
    (fun s H' => s.1 <= bs.length /\ Bl 3 H0 H' s.2 (tri ((bs.take s.1).map (renB xs))) s.1) (fun s => bs.length - s.1) (0, H0.length) ?_ ?_ ?_
  · simp [upF, Fr.get, Up.refl, Up.ex0]
  · exact ⟨by simp, by simpa [tri] using hbl0⟩
  · rintro K ⟨s, id⟩ H' ⟨hs, hbl⟩ hK
    simp only at hs hbl
    obtain ⟨d0, d1, d2⟩ := (hx0.pre hbl.1).sys
    by_cases hlt : s < bs.length
    · have hbs : bs[s]? = some bs[s] := List.getElem?_eq_getElem hlt
      have c1 := (h1.pre (hp0.trans hbl.1)).bk hbs
      simp only [Bk.cells] at c1
      have hw_s : IntKind.i64.wrap ((s : Int) + 1) = (s : Int) + 1 := i64w (by omega) (by omega)
      have hgd : good p bs[s] = true := hgd bs[s] (List.getElem_mem hlt)
      obtain ⟨b, hb⟩ : ∃ b, bs[s] = b := ⟨_, rfl⟩
      rw [hb] at c1 hbs hgd
      have hg' := good_iff.1 hgd
      obtain ⟨x, y, z, rfl, hxy, hyz, hz15⟩ := good_nat hgd hpx.2
      simp only at hg' c1
      have lx : x < xs.length := by omega
      have ly : y < xs.length := by omega
      have lz : z < xs.length := by omega
      have bx := hO.bound hpx.2 lx
      have by' := hO.bound hpx.2 ly
      have bz := hO.bound hpx.2 lz
      simp (maxSteps := 1000000) [go_sem, hlt, c1, d0, d1, d2]
      have hpb : H' <+: H' ++ [⟨[.int .i64 x, .int .i64 y, .int .i64 z], true, true⟩] := List.prefix_append _ _
      have hxb := Holds.last H' [.int .i64 x, .int .i64 y, .int .i64 z]
      have hbl1 := hbl.pre hpb
      generalize H' ++ [(⟨[.int .i64 x, .int .i64 y, .int .i64 z], true, true⟩ : Blk)] = H1 at *
      obtain ⟨e0, e1, e2, e3⟩ := hxb.bk
      have hx3 := h3.pre (hp0.trans hbl1.1)
      have f1 := hx3.cell (k := x) (v := .int .i64 (nthI xs x)) (by simp [ints, nthI_in lx])
      have f2 := hx3.cell (k := y) (v := .int .i64 (nthI xs y)) (by simp [ints, nthI_in ly])
      have f3 := hx3.cell (k := z) (v := .int .i64 (nthI xs z)) (by simp [ints, nthI_in lz])
      refine AWp.draw mixed [(0, false), (1, false), (2, false), (3, false), (4, false), (5, false), (6, false), (7, false), (8, false), (9, false), (10, false), (11, false), (12, false), (13, false), (14, false), (15, false), (16, false), (17, false), (18, false), (19, false)] (by kernel_rfl) ?_
      simp (maxSteps := 1000000) [go_sem, e1, e2, e3, f1, f2, f3, lx, ly, lz]
      refine l01Block_ok (by omega) (by omega) (by omega) _ ?_
      intro H2 hp2
      have hcb : renB xs ⟨x, y, z⟩ = blk (nthI xs x) (nthI xs y) (nthI xs z) := rfl
      rw [<- hcb]
      obtain ⟨c, hc⟩ : ∃ c, renB xs ⟨x, y, z⟩ = c := ⟨_, rfl⟩
      rw [hc]
      have hsn : (bs.take (s + 1)).map (renB xs) = (bs.take s).map (renB xs) ++ [c] := by rw [List.take_succ_eq_append_getElem hlt, hb, List.map_append]; simp [hc]
      obtain ⟨hsrc, H5, hap, hbl5⟩ := (hbl1.pre hp2).push (xs := c.cells) (by omega) rfl
      simp only [Bk.cells] at hsrc hap hbl5
      simp (maxSteps := 1000000) [go_sem, Bk.val, hw_s, hsrc, hap]
      refine andK_intro (by omega) (hK (s + 1, H2.length + 1) _ _ (by simp only; omega) (by simp [upF, Fr.get, Up.refl]) ⟨by simp only; omega, ?_⟩)
      simp only [hsn, tri_append, tri_one, Bk.cells]
      exact hbl5
    · have : s = bs.length := by omega
      subst this
      rw [List.take_length] at hbl
      have hlm : (bs.map (renB xs)).length = bs.length := List.length_map _
      have hown : BlocksIn H0.length H'.length H' (lv 3 id 0 bs.length) (bs.map (renB xs)) := by
        rw [<- hlm]
        exact OwnBlocks.inn (OwnBlocks.of_ol (by rw [hlm]; exact hbl.2.1) (by omega)) hbl.2.2
      simp (maxSteps := 1000000) [go_sem, d0, d1, d2]
      refine l01Made_ok hown.read (by omega) _ ?_
      intro H2 z hp2 hz
      obtain ⟨q1, q2, q3, q4⟩ := put2 (cs := [.int .i64 p, z]) hp0 (show H.length <= H.length + 1 by omega) hb0 rfl (hbl.1.trans hp2) rfl (by simp [one_int, hz.one])
      have hll := hbl.1.length_le
      have fin := h _ z q3 (by rw [List.length_set]; exact (hz.keep q4 (fun j hj e => by have := hj.1; omega)).wider (by omega))
      simp (maxSteps := 1000000) [go_sem, sysV, q1, q2]
      exact fin

end Go.Proofs.YtfnegaedkomcgaaGreat
end
