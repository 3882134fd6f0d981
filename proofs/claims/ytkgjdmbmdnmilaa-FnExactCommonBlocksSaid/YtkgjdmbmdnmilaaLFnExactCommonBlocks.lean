/- The law on CommonBlocks, in abstract terms: its code returns true, for every input. -/
import Derived.Test.YtkgjdmbmdnmilaaCommon
set_option linter.all false
set_option maxRecDepth 20000
namespace Go.Proofs.Ytkgjdmbmdnmilaa
open Go.Ab

theorem lawFnExactCommonBlocks (H : Heap) (avs : List Value) (h : argsSay [shSystem, shSystem] H avs) : ACalls Try.prog 11 avs H fun v _ => v = .bool true := by
  obtain ⟨_, _, rfl, a0, _, _, rfl, a1, rfl⟩ := h
  obtain ⟨p0, u0, b0, rfl, hp00, hz0, hw0⟩ := says_shSystem a0
  have one0 : u0.oneCell' = true := by obtain ⟨i, o, rfl, _⟩ := hz0; rfl
  obtain ⟨p1, u1, b1, rfl, hp01, hz1, hw1⟩ := says_shSystem a1
  have one1 : u1.oneCell' = true := by obtain ⟨i, o, rfl, _⟩ := hz1; rfl
  refine acalls_vc (rs := [.tmp 4]) Try.func11 rfl rfl Try.ntmps11 rfl rfl ?_
  try simp (maxSteps := 1000000) [go_sem, one0, one1, sysV]
  have hp1 : H <+: H ++ [(⟨[.int .i64 p0, u0], true, true⟩ : Blk), (⟨[.int .i64 p1, u1], true, true⟩ : Blk)] := List.prefix_append _ _
  have bx0 : Holds (H ++ [(⟨[.int .i64 p0, u0], true, true⟩ : Blk), (⟨[.int .i64 p1, u1], true, true⟩ : Blk)]) (H.length) [.int .i64 p0, u0] := ⟨true, by simp⟩
  have bx1 : Holds (H ++ [(⟨[.int .i64 p0, u0], true, true⟩ : Blk), (⟨[.int .i64 p1, u1], true, true⟩ : Blk)]) (H.length + 1) [.int .i64 p1, u1] := ⟨true, by simp⟩
  have hbH1 : (H ++ [(⟨[.int .i64 p0, u0], true, true⟩ : Blk), (⟨[.int .i64 p1, u1], true, true⟩ : Blk)]).length = H.length + 2 := by simp
  generalize H ++ [(⟨[.int .i64 p0, u0], true, true⟩ : Blk), (⟨[.int .i64 p1, u1], true, true⟩ : Blk)] = H1 at hp1 hbH1 bx0 bx1 ⊢
  have hlH1 := hp1.length_le
  have qz0 := hp1
  have qz1 := hp1
  obtain ⟨d0a, d0b, d0c⟩ := bx0.sys
  obtain ⟨d1a, d1b, d1c⟩ := bx1.sys
  refine szSystem0_ok (hz0.pre qz0) (by omega) (by omega) _ ?_
  intro H2 hp2
  replace bx0 := bx0.pre hp2
  replace bx1 := bx1.pre hp2
  replace qz0 := qz0.trans hp2
  replace qz1 := qz1.trans hp2
  have hlH2 := hp2.length_le
  obtain ⟨d0a, d0b, d0c⟩ := bx0.sys
  obtain ⟨d1a, d1b, d1c⟩ := bx1.sys
  by_cases hbig0 : (1048576 : Int) < b0.length
  · simp (maxSteps := 1000000) [go_sem, hbig0, one0, one1, sysV]
  have hneg0 : decide ((1048576 : Int) - b0.length < 0) = false := by simp; omega
  have hl0 : b0.length ≤ 1048576 := by omega
  have hq0 := hz0.at (by omega)
  try simp (maxSteps := 1000000) [go_sem, hbig0, hneg0, one0, one1, sysV, d0a, d0b, d0c, d1a, d1b, d1c]
  refine szSystem0_ok (hz1.pre qz1) (by omega) (by omega) _ ?_
  intro H3 hp3
  replace bx0 := bx0.pre hp3
  replace bx1 := bx1.pre hp3
  replace qz1 := qz1.trans hp3
  replace qz0 := qz0.trans hp3
  have hlH3 := hp3.length_le
  obtain ⟨d0a, d0b, d0c⟩ := bx0.sys
  obtain ⟨d1a, d1b, d1c⟩ := bx1.sys
  by_cases hbig1 : (1048576 - b0.length : Int) < b1.length
  · simp (maxSteps := 1000000) [go_sem, hbig1, hbig0, hneg0, one0, one1, sysV]
  have hneg1 : decide ((1048576 - b0.length : Int) - b1.length < 0) = false := by simp; omega
  have hl1 : b1.length ≤ 1048576 := by omega
  have hq1 := hz1.at (by omega)
  try simp (maxSteps := 1000000) [go_sem, hbig0, hbig1, hneg0, hneg1, one0, one1, sysV, d0a, d0b, d0c, d1a, d1b, d1c]
  refine AWp.draw mixed [(0, false), (2, false), (1, true), (3, false), (4, false), (5, false), (6, false), (7, false), (8, false), (9, false)] (by kernel_rfl) ?_
  try simp (maxSteps := 1000000) [go_sem, hbig0, hbig1, hneg0, hneg1, one0, one1, sysV, d0a, d0b, d0c, d1a, d1b, d1c]
  refine toSys_ok (hq0.pre qz0) hl0 _ ?_
  intro H4 wo4 hp4 hoo4
  replace bx0 := bx0.pre hp4
  replace bx1 := bx1.pre hp4
  replace qz0 := qz0.trans hp4
  replace qz1 := qz1.trans hp4
  have hlH4 := hp4.length_le
  obtain ⟨d0a, d0b, d0c⟩ := bx0.sys
  obtain ⟨d1a, d1b, d1c⟩ := bx1.sys
  try simp (maxSteps := 1000000) [go_sem, hbig0, hbig1, hneg0, hneg1, hp4, one0, one1, sysV, d0a, d0b, d0c, d1a, d1b, d1c]
  refine toSys_ok (hq1.pre qz1) hl1 _ ?_
  intro H5 wo5 hp5 hoo5
  replace bx0 := bx0.pre hp5
  replace bx1 := bx1.pre hp5
  replace hoo4 := hoo4.pre hp5
  replace qz0 := qz0.trans hp5
  replace qz1 := qz1.trans hp5
  have hlH5 := hp5.length_le
  obtain ⟨d0a, d0b, d0c⟩ := bx0.sys
  obtain ⟨d1a, d1b, d1c⟩ := bx1.sys
  try simp (maxSteps := 1000000) [go_sem, hbig0, hbig1, hneg0, hneg1, hp4, one0, one1, sysV, d0a, d0b, d0c, d1a, d1b, d1c]
  refine specCommonBlocks_ok hoo4.read hl0 hoo5.read hl1 _ ?_
  intro H6 wH6_0 hp6 hoH6_0
  replace bx0 := bx0.pre hp6
  replace bx1 := bx1.pre hp6
  replace hoo4 := hoo4.pre hp6
  replace hoo5 := hoo5.pre hp6
  replace qz0 := qz0.trans hp6
  replace qz1 := qz1.trans hp6
  have hlH6 := hp6.length_le
  obtain ⟨d0a, d0b, d0c⟩ := bx0.sys
  obtain ⟨d1a, d1b, d1c⟩ := bx1.sys
  try simp (maxSteps := 1000000) [go_sem, hbig0, hbig1, hneg0, hneg1, hp4, one0, one1, sysV, d0a, d0b, d0c, d1a, d1b, d1c]
  refine toSys_ok (hq0.pre qz0) hl0 _ ?_
  intro H7 wo7 hp7 hoo7
  replace bx0 := bx0.pre hp7
  replace bx1 := bx1.pre hp7
  replace hoo4 := hoo4.pre hp7
  replace hoo5 := hoo5.pre hp7
  replace hoH6_0 := hoH6_0.pre hp7
  replace qz0 := qz0.trans hp7
  replace qz1 := qz1.trans hp7
  have hlH7 := hp7.length_le
  obtain ⟨d0a, d0b, d0c⟩ := bx0.sys
  obtain ⟨d1a, d1b, d1c⟩ := bx1.sys
  have one_o7 : wo7.oneCell' = true := hoo7.read.one
  try simp (maxSteps := 1000000) [go_sem, hbig0, hbig1, hneg0, hneg1, hp4, one0, one1, one_o7, sysV, d0a, d0b, d0c, d1a, d1b, d1c]
  have bxo7 := Holds.last H7 [.int .i64 p0, wo7]
  have hp8 : H7 <+: H7 ++ [(⟨[.int .i64 p0, wo7], true, true⟩ : Blk)] := List.prefix_append _ _
  have hbH8 : (H7 ++ [(⟨[.int .i64 p0, wo7], true, true⟩ : Blk)]).length = H7.length + 1 := by simp
  generalize H7 ++ [(⟨[.int .i64 p0, wo7], true, true⟩ : Blk)] = H8 at bxo7 hp8 hbH8 ⊢
  replace bx0 := bx0.pre hp8
  replace bx1 := bx1.pre hp8
  replace hoo4 := hoo4.pre hp8
  replace hoo5 := hoo5.pre hp8
  replace hoH6_0 := hoH6_0.pre hp8
  replace hoo7 := hoo7.pre hp8
  replace qz0 := qz0.trans hp8
  replace qz1 := qz1.trans hp8
  have hlH8 := hp8.length_le
  obtain ⟨d0a, d0b, d0c⟩ := bx0.sys
  obtain ⟨d1a, d1b, d1c⟩ := bx1.sys
  obtain ⟨eo7a, eo7b, eo7c⟩ := bxo7.sys
  try simp (maxSteps := 1000000) [go_sem, hbig0, hbig1, hneg0, hneg1, hp4, one0, one1, one_o7, sysV, d0a, d0b, d0c, d1a, d1b, d1c, eo7a, eo7b, eo7c]
  refine toSys_ok (hq1.pre qz1) hl1 _ ?_
  intro H9 wo9 hp9 hoo9
  replace bx0 := bx0.pre hp9
  replace bx1 := bx1.pre hp9
  replace bxo7 := bxo7.pre hp9
  replace hoo4 := hoo4.pre hp9
  replace hoo5 := hoo5.pre hp9
  replace hoH6_0 := hoH6_0.pre hp9
  replace hoo7 := hoo7.pre hp9
  replace qz0 := qz0.trans hp9
  replace qz1 := qz1.trans hp9
  have hlH9 := hp9.length_le
  obtain ⟨d0a, d0b, d0c⟩ := bx0.sys
  obtain ⟨d1a, d1b, d1c⟩ := bx1.sys
  obtain ⟨eo7a, eo7b, eo7c⟩ := bxo7.sys
  have one_o9 : wo9.oneCell' = true := hoo9.read.one
  try simp (maxSteps := 1000000) [go_sem, hbig0, hbig1, hneg0, hneg1, hp4, one0, one1, one_o7, one_o9, sysV, d0a, d0b, d0c, d1a, d1b, d1c, eo7a, eo7b, eo7c]
  have bxo9 := Holds.last H9 [.int .i64 p1, wo9]
  have hp10 : H9 <+: H9 ++ [(⟨[.int .i64 p1, wo9], true, true⟩ : Blk)] := List.prefix_append _ _
  have hbH10 : (H9 ++ [(⟨[.int .i64 p1, wo9], true, true⟩ : Blk)]).length = H9.length + 1 := by simp
  generalize H9 ++ [(⟨[.int .i64 p1, wo9], true, true⟩ : Blk)] = H10 at bxo9 hp10 hbH10 ⊢
  replace bx0 := bx0.pre hp10
  replace bx1 := bx1.pre hp10
  replace bxo7 := bxo7.pre hp10
  replace hoo4 := hoo4.pre hp10
  replace hoo5 := hoo5.pre hp10
  replace hoH6_0 := hoH6_0.pre hp10
  replace hoo7 := hoo7.pre hp10
  replace hoo9 := hoo9.pre hp10
  replace qz0 := qz0.trans hp10
  replace qz1 := qz1.trans hp10
  have hlH10 := hp10.length_le
  obtain ⟨d0a, d0b, d0c⟩ := bx0.sys
  obtain ⟨d1a, d1b, d1c⟩ := bx1.sys
  obtain ⟨eo7a, eo7b, eo7c⟩ := bxo7.sys
  obtain ⟨eo9a, eo9b, eo9c⟩ := bxo9.sys
  try simp (maxSteps := 1000000) [go_sem, hbig0, hbig1, hneg0, hneg1, hp4, one0, one1, one_o7, one_o9, sysV, d0a, d0b, d0c, d1a, d1b, d1c, eo7a, eo7b, eo7c, eo9a, eo9b, eo9c]
  refine implCommonBlocks_ok hoo7.read hl0 hoo9.read hl1 _ ?_
  intro H11 wH11_0 hp11 hoH11_0
  replace bx0 := bx0.pre hp11
  replace bx1 := bx1.pre hp11
  replace bxo7 := bxo7.pre hp11
  replace bxo9 := bxo9.pre hp11
  replace hoo4 := hoo4.pre hp11
  replace hoo5 := hoo5.pre hp11
  replace hoH6_0 := hoH6_0.pre hp11
  replace hoo7 := hoo7.pre hp11
  replace hoo9 := hoo9.pre hp11
  replace qz0 := qz0.trans hp11
  replace qz1 := qz1.trans hp11
  have hlH11 := hp11.length_le
  obtain ⟨d0a, d0b, d0c⟩ := bx0.sys
  obtain ⟨d1a, d1b, d1c⟩ := bx1.sys
  obtain ⟨eo7a, eo7b, eo7c⟩ := bxo7.sys
  obtain ⟨eo9a, eo9b, eo9c⟩ := bxo9.sys
  try simp (maxSteps := 1000000) [go_sem, hbig0, hbig1, hneg0, hneg1, hp4, one0, one1, one_o7, one_o9, sysV, d0a, d0b, d0c, d1a, d1b, d1c, eo7a, eo7b, eo7c, eo9a, eo9b, eo9c]
  refine eqBlockS_ok hoH11_0.read hoH6_0.read _ ?_
  intro H12 hp12
  replace bx0 := bx0.pre hp12
  replace bx1 := bx1.pre hp12
  replace bxo7 := bxo7.pre hp12
  replace bxo9 := bxo9.pre hp12
  replace hoo4 := hoo4.pre hp12
  replace hoo5 := hoo5.pre hp12
  replace hoH6_0 := hoH6_0.pre hp12
  replace hoo7 := hoo7.pre hp12
  replace hoo9 := hoo9.pre hp12
  replace hoH11_0 := hoH11_0.pre hp12
  replace qz0 := qz0.trans hp12
  replace qz1 := qz1.trans hp12
  have hlH12 := hp12.length_le
  obtain ⟨d0a, d0b, d0c⟩ := bx0.sys
  obtain ⟨d1a, d1b, d1c⟩ := bx1.sys
  obtain ⟨eo7a, eo7b, eo7c⟩ := bxo7.sys
  obtain ⟨eo9a, eo9b, eo9c⟩ := bxo9.sys
  try simp (maxSteps := 1000000) [go_sem, hbig0, hbig1, hneg0, hneg1, hp4, one0, one1, one_o7, one_o9, sysV, d0a, d0b, d0c, d1a, d1b, d1c, eo7a, eo7b, eo7c, eo9a, eo9b, eo9c]
  refine AWp.draw mixed [(0, false), (1, false), (2, true), (3, false), (4, false)] (by kernel_rfl) ?_
  try simp (maxSteps := 1000000) [go_sem, hbig0, hbig1, hneg0, hneg1, hp4, one0, one1, one_o7, one_o9, sysV, d0a, d0b, d0c, d1a, d1b, d1c, eo7a, eo7b, eo7c, eo9a, eo9b, eo9c]
  refine toSys_ok (hq0.pre qz0) hl0 _ ?_
  intro H13 wo13 hp13 hoo13
  replace bx0 := bx0.pre hp13
  replace bx1 := bx1.pre hp13
  replace bxo7 := bxo7.pre hp13
  replace bxo9 := bxo9.pre hp13
  replace hoo4 := hoo4.pre hp13
  replace hoo5 := hoo5.pre hp13
  replace hoH6_0 := hoH6_0.pre hp13
  replace hoo7 := hoo7.pre hp13
  replace hoo9 := hoo9.pre hp13
  replace hoH11_0 := hoH11_0.pre hp13
  replace qz0 := qz0.trans hp13
  replace qz1 := qz1.trans hp13
  have hlH13 := hp13.length_le
  obtain ⟨d0a, d0b, d0c⟩ := bx0.sys
  obtain ⟨d1a, d1b, d1c⟩ := bx1.sys
  obtain ⟨eo7a, eo7b, eo7c⟩ := bxo7.sys
  obtain ⟨eo9a, eo9b, eo9c⟩ := bxo9.sys
  try simp (maxSteps := 1000000) [go_sem, hbig0, hbig1, hneg0, hneg1, hp13, hp4, one0, one1, one_o7, one_o9, sysV, d0a, d0b, d0c, d1a, d1b, d1c, eo7a, eo7b, eo7c, eo9a, eo9b, eo9c]
  refine eqSystem_ok hoo7.read hoo13.read _ ?_
  intro H14 hp14
  replace bx0 := bx0.pre hp14
  replace bx1 := bx1.pre hp14
  replace bxo7 := bxo7.pre hp14
  replace bxo9 := bxo9.pre hp14
  replace hoo4 := hoo4.pre hp14
  replace hoo5 := hoo5.pre hp14
  replace hoH6_0 := hoH6_0.pre hp14
  replace hoo7 := hoo7.pre hp14
  replace hoo9 := hoo9.pre hp14
  replace hoH11_0 := hoH11_0.pre hp14
  replace hoo13 := hoo13.pre hp14
  replace qz0 := qz0.trans hp14
  replace qz1 := qz1.trans hp14
  have hlH14 := hp14.length_le
  obtain ⟨d0a, d0b, d0c⟩ := bx0.sys
  obtain ⟨d1a, d1b, d1c⟩ := bx1.sys
  obtain ⟨eo7a, eo7b, eo7c⟩ := bxo7.sys
  obtain ⟨eo9a, eo9b, eo9c⟩ := bxo9.sys
  try simp (maxSteps := 1000000) [go_sem, hbig0, hbig1, hneg0, hneg1, hp13, hp4, one0, one1, one_o7, one_o9, sysV, d0a, d0b, d0c, d1a, d1b, d1c, eo7a, eo7b, eo7c, eo9a, eo9b, eo9c]
  refine AWp.draw mixed [(0, false), (1, false), (2, true), (3, false), (4, false)] (by kernel_rfl) ?_
  try simp (maxSteps := 1000000) [go_sem, hbig0, hbig1, hneg0, hneg1, hp13, hp4, one0, one1, one_o7, one_o9, sysV, d0a, d0b, d0c, d1a, d1b, d1c, eo7a, eo7b, eo7c, eo9a, eo9b, eo9c]
  refine toSys_ok (hq1.pre qz1) hl1 _ ?_
  intro H15 wo15 hp15 hoo15
  replace bx0 := bx0.pre hp15
  replace bx1 := bx1.pre hp15
  replace bxo7 := bxo7.pre hp15
  replace bxo9 := bxo9.pre hp15
  replace hoo4 := hoo4.pre hp15
  replace hoo5 := hoo5.pre hp15
  replace hoH6_0 := hoH6_0.pre hp15
  replace hoo7 := hoo7.pre hp15
  replace hoo9 := hoo9.pre hp15
  replace hoH11_0 := hoH11_0.pre hp15
  replace hoo13 := hoo13.pre hp15
  replace qz0 := qz0.trans hp15
  replace qz1 := qz1.trans hp15
  have hlH15 := hp15.length_le
  obtain ⟨d0a, d0b, d0c⟩ := bx0.sys
  obtain ⟨d1a, d1b, d1c⟩ := bx1.sys
  obtain ⟨eo7a, eo7b, eo7c⟩ := bxo7.sys
  obtain ⟨eo9a, eo9b, eo9c⟩ := bxo9.sys
  try simp (maxSteps := 1000000) [go_sem, hbig0, hbig1, hneg0, hneg1, hp13, hp15, hp4, one0, one1, one_o7, one_o9, sysV, d0a, d0b, d0c, d1a, d1b, d1c, eo7a, eo7b, eo7c, eo9a, eo9b, eo9c]
  refine eqSystem_ok hoo9.read hoo15.read _ ?_
  intro H16 hp16
  replace bx0 := bx0.pre hp16
  replace bx1 := bx1.pre hp16
  replace bxo7 := bxo7.pre hp16
  replace bxo9 := bxo9.pre hp16
  replace hoo4 := hoo4.pre hp16
  replace hoo5 := hoo5.pre hp16
  replace hoH6_0 := hoH6_0.pre hp16
  replace hoo7 := hoo7.pre hp16
  replace hoo9 := hoo9.pre hp16
  replace hoH11_0 := hoH11_0.pre hp16
  replace hoo13 := hoo13.pre hp16
  replace hoo15 := hoo15.pre hp16
  replace qz0 := qz0.trans hp16
  replace qz1 := qz1.trans hp16
  have hlH16 := hp16.length_le
  obtain ⟨d0a, d0b, d0c⟩ := bx0.sys
  obtain ⟨d1a, d1b, d1c⟩ := bx1.sys
  obtain ⟨eo7a, eo7b, eo7c⟩ := bxo7.sys
  obtain ⟨eo9a, eo9b, eo9c⟩ := bxo9.sys
  try simp (maxSteps := 1000000) [go_sem, hbig0, hbig1, hneg0, hneg1, hp13, hp15, hp4, one0, one1, one_o7, one_o9, sysV, d0a, d0b, d0c, d1a, d1b, d1c, eo7a, eo7b, eo7c, eo9a, eo9b, eo9c]
  refine markSys_ok hoo7 (by omega) (by omega) _ ?_
  intro H17 hs17 mk17
  replace bx0 := bx0.keepS hs17 (by rintro ⟨h1, h2⟩; omega)
  replace bx1 := bx1.keepS hs17 (by rintro ⟨h1, h2⟩; omega)
  replace bxo7 := bxo7.keepS hs17 (by rintro ⟨h1, h2⟩; omega)
  replace bxo9 := bxo9.keepS hs17 (by rintro ⟨h1, h2⟩; omega)
  replace hoo4 := hoo4.keep hs17 (by rintro j ⟨h1, h2⟩ ⟨h3, h4⟩; omega)
  replace hoo5 := hoo5.keep hs17 (by rintro j ⟨h1, h2⟩ ⟨h3, h4⟩; omega)
  replace hoH6_0 := hoH6_0.keep hs17 (by rintro j ⟨h1, h2⟩ ⟨h3, h4⟩; omega)
  replace hoo9 := hoo9.keep hs17 (by rintro j ⟨h1, h2⟩ ⟨h3, h4⟩; omega)
  replace hoH11_0 := hoH11_0.keep hs17 (by rintro j ⟨h1, h2⟩ ⟨h3, h4⟩; omega)
  replace hoo13 := hoo13.keep hs17 (by rintro j ⟨h1, h2⟩ ⟨h3, h4⟩; omega)
  replace hoo15 := hoo15.keep hs17 (by rintro j ⟨h1, h2⟩ ⟨h3, h4⟩; omega)
  replace qz0 := ((Same.of_prefix qz0).trans hs17).prefix (by rintro j hj ⟨h1, h2⟩; omega)
  replace qz1 := ((Same.of_prefix qz1).trans hs17).prefix (by rintro j hj ⟨h1, h2⟩; omega)
  have hlH17 := hs17.1
  obtain ⟨d0a, d0b, d0c⟩ := bx0.sys
  obtain ⟨d1a, d1b, d1c⟩ := bx1.sys
  obtain ⟨eo7a, eo7b, eo7c⟩ := bxo7.sys
  obtain ⟨eo9a, eo9b, eo9c⟩ := bxo9.sys
  have hng17 : decide ((1 : Int) + ((b0).length * 3 : Nat) < 0) = false := by simp only [decide_eq_false_iff_not]; omega
  try simp only [Int.natCast_mul, Int.cast_ofNat_Int] at hng17
  try simp (maxSteps := 1000000) [go_sem, hbig0, hbig1, hneg0, hneg1, hng17, hp13, hp15, hp4, one0, one1, one_o7, one_o9, sysV, d0a, d0b, d0c, d1a, d1b, d1c, eo7a, eo7b, eo7c, eo9a, eo9b, eo9c]
  refine markSys_ok hoo9 (by omega) (by omega) _ ?_
  intro H18 hs18 mk18
  replace bx0 := bx0.keepS hs18 (by rintro ⟨h1, h2⟩; omega)
  replace bx1 := bx1.keepS hs18 (by rintro ⟨h1, h2⟩; omega)
  replace bxo7 := bxo7.keepS hs18 (by rintro ⟨h1, h2⟩; omega)
  replace bxo9 := bxo9.keepS hs18 (by rintro ⟨h1, h2⟩; omega)
  replace hoo4 := hoo4.keep hs18 (by rintro j ⟨h1, h2⟩ ⟨h3, h4⟩; omega)
  replace hoo5 := hoo5.keep hs18 (by rintro j ⟨h1, h2⟩ ⟨h3, h4⟩; omega)
  replace hoH6_0 := hoH6_0.keep hs18 (by rintro j ⟨h1, h2⟩ ⟨h3, h4⟩; omega)
  replace mk17 := mk17.keep hs18 (by rintro j ⟨h1, h2⟩ ⟨h3, h4⟩; omega)
  replace hoH11_0 := hoH11_0.keep hs18 (by rintro j ⟨h1, h2⟩ ⟨h3, h4⟩; omega)
  replace hoo13 := hoo13.keep hs18 (by rintro j ⟨h1, h2⟩ ⟨h3, h4⟩; omega)
  replace hoo15 := hoo15.keep hs18 (by rintro j ⟨h1, h2⟩ ⟨h3, h4⟩; omega)
  replace qz0 := ((Same.of_prefix qz0).trans hs18).prefix (by rintro j hj ⟨h1, h2⟩; omega)
  replace qz1 := ((Same.of_prefix qz1).trans hs18).prefix (by rintro j hj ⟨h1, h2⟩; omega)
  have hlH18 := hs18.1
  obtain ⟨d0a, d0b, d0c⟩ := bx0.sys
  obtain ⟨d1a, d1b, d1c⟩ := bx1.sys
  obtain ⟨eo7a, eo7b, eo7c⟩ := bxo7.sys
  obtain ⟨eo9a, eo9b, eo9c⟩ := bxo9.sys
  have hng18 : decide ((1 : Int) + ((b0).length * 3 : Nat) + ((b1).length * 3 : Nat) < 0) = false := by simp only [decide_eq_false_iff_not]; omega
  try simp only [Int.natCast_mul, Int.cast_ofNat_Int] at hng18
  try simp (maxSteps := 1000000) [go_sem, hbig0, hbig1, hneg0, hneg1, hng17, hng18, hp13, hp15, hp4, one0, one1, one_o7, one_o9, sysV, d0a, d0b, d0c, d1a, d1b, d1c, eo7a, eo7b, eo7c, eo9a, eo9b, eo9c]
  refine eqBlockS_ok hoH11_0.read hoH6_0.read _ ?_
  intro H19 hp19
  replace bx0 := bx0.pre hp19
  replace bx1 := bx1.pre hp19
  replace bxo7 := bxo7.pre hp19
  replace bxo9 := bxo9.pre hp19
  replace hoo4 := hoo4.pre hp19
  replace hoo5 := hoo5.pre hp19
  replace hoH6_0 := hoH6_0.pre hp19
  replace mk17 := mk17.pre hp19
  replace mk18 := mk18.pre hp19
  replace hoH11_0 := hoH11_0.pre hp19
  replace hoo13 := hoo13.pre hp19
  replace hoo15 := hoo15.pre hp19
  replace qz0 := qz0.trans hp19
  replace qz1 := qz1.trans hp19
  have hlH19 := hp19.length_le
  obtain ⟨d0a, d0b, d0c⟩ := bx0.sys
  obtain ⟨d1a, d1b, d1c⟩ := bx1.sys
  obtain ⟨eo7a, eo7b, eo7c⟩ := bxo7.sys
  obtain ⟨eo9a, eo9b, eo9c⟩ := bxo9.sys
  try simp (maxSteps := 1000000) [go_sem, hbig0, hbig1, hneg0, hneg1, hng17, hng18, hp13, hp15, hp4, one0, one1, one_o7, one_o9, sysV, d0a, d0b, d0c, d1a, d1b, d1c, eo7a, eo7b, eo7c, eo9a, eo9b, eo9c]
  refine markBlocks_ok hoH11_0 (by omega) (by omega) _ ?_
  intro H20 hs20 mk20
  replace bx0 := bx0.keepS hs20 (by rintro ⟨h1, h2⟩; omega)
  replace bx1 := bx1.keepS hs20 (by rintro ⟨h1, h2⟩; omega)
  replace bxo7 := bxo7.keepS hs20 (by rintro ⟨h1, h2⟩; omega)
  replace bxo9 := bxo9.keepS hs20 (by rintro ⟨h1, h2⟩; omega)
  replace hoo4 := hoo4.keep hs20 (by rintro j ⟨h1, h2⟩ ⟨h3, h4⟩; omega)
  replace hoo5 := hoo5.keep hs20 (by rintro j ⟨h1, h2⟩ ⟨h3, h4⟩; omega)
  replace hoH6_0 := hoH6_0.keep hs20 (by rintro j ⟨h1, h2⟩ ⟨h3, h4⟩; omega)
  replace mk17 := mk17.keep hs20 (by rintro j ⟨h1, h2⟩ ⟨h3, h4⟩; omega)
  replace mk18 := mk18.keep hs20 (by rintro j ⟨h1, h2⟩ ⟨h3, h4⟩; omega)
  replace hoo13 := hoo13.keep hs20 (by rintro j ⟨h1, h2⟩ ⟨h3, h4⟩; omega)
  replace hoo15 := hoo15.keep hs20 (by rintro j ⟨h1, h2⟩ ⟨h3, h4⟩; omega)
  replace qz0 := ((Same.of_prefix qz0).trans hs20).prefix (by rintro j hj ⟨h1, h2⟩; omega)
  replace qz1 := ((Same.of_prefix qz1).trans hs20).prefix (by rintro j hj ⟨h1, h2⟩; omega)
  have hlH20 := hs20.1
  obtain ⟨d0a, d0b, d0c⟩ := bx0.sys
  obtain ⟨d1a, d1b, d1c⟩ := bx1.sys
  obtain ⟨eo7a, eo7b, eo7c⟩ := bxo7.sys
  obtain ⟨eo9a, eo9b, eo9c⟩ := bxo9.sys
  have hng20 : decide ((1 : Int) + (((rCommon p0 b0 p1 b1).1).length * 3 : Nat) < 0) = false := by simp only [decide_eq_false_iff_not]; omega
  try simp only [Int.natCast_mul, Int.cast_ofNat_Int] at hng20
  try simp (maxSteps := 1000000) [go_sem, hbig0, hbig1, hneg0, hneg1, hng17, hng18, hng20, hp13, hp15, hp4, one0, one1, one_o7, one_o9, sysV, d0a, d0b, d0c, d1a, d1b, d1c, eo7a, eo7b, eo7c, eo9a, eo9b, eo9c]
  refine heldBlocks_ok mk20 (by omega) (by omega) _ ?_
  try simp (maxSteps := 1000000) [go_sem, hbig0, hbig1, hneg0, hneg1, hng17, hng18, hng20, hp13, hp15, hp4, one0, one1, one_o7, one_o9, sysV, d0a, d0b, d0c, d1a, d1b, d1c, eo7a, eo7b, eo7c, eo9a, eo9b, eo9c]
  refine AWp.draw mixed [(0, false), (2, false), (1, true), (3, false), (4, false), (5, false), (6, false), (7, false), (8, false), (9, false)] (by kernel_rfl) ?_
  try simp (maxSteps := 1000000) [go_sem, hbig0, hbig1, hneg0, hneg1, hng17, hng18, hng20, hp13, hp15, hp4, one0, one1, one_o7, one_o9, sysV, d0a, d0b, d0c, d1a, d1b, d1c, eo7a, eo7b, eo7c, eo9a, eo9b, eo9c]
  refine toSys_ok (hq0.pre qz0) hl0 _ ?_
  intro H21 wo21 hp21 hoo21
  replace bx0 := bx0.pre hp21
  replace bx1 := bx1.pre hp21
  replace bxo7 := bxo7.pre hp21
  replace bxo9 := bxo9.pre hp21
  replace hoo4 := hoo4.pre hp21
  replace hoo5 := hoo5.pre hp21
  replace hoH6_0 := hoH6_0.pre hp21
  replace mk17 := mk17.pre hp21
  replace mk18 := mk18.pre hp21
  replace mk20 := mk20.pre hp21
  replace hoo13 := hoo13.pre hp21
  replace hoo15 := hoo15.pre hp21
  replace qz0 := qz0.trans hp21
  replace qz1 := qz1.trans hp21
  have hlH21 := hp21.length_le
  obtain ⟨d0a, d0b, d0c⟩ := bx0.sys
  obtain ⟨d1a, d1b, d1c⟩ := bx1.sys
  obtain ⟨eo7a, eo7b, eo7c⟩ := bxo7.sys
  obtain ⟨eo9a, eo9b, eo9c⟩ := bxo9.sys
  try simp (maxSteps := 1000000) [go_sem, hbig0, hbig1, hneg0, hneg1, hng17, hng18, hng20, hp13, hp15, hp21, hp4, one0, one1, one_o7, one_o9, sysV, d0a, d0b, d0c, d1a, d1b, d1c, eo7a, eo7b, eo7c, eo9a, eo9b, eo9c]
  refine toSys_ok (hq1.pre qz1) hl1 _ ?_
  intro H22 wo22 hp22 hoo22
  replace bx0 := bx0.pre hp22
  replace bx1 := bx1.pre hp22
  replace bxo7 := bxo7.pre hp22
  replace bxo9 := bxo9.pre hp22
  replace hoo4 := hoo4.pre hp22
  replace hoo5 := hoo5.pre hp22
  replace hoH6_0 := hoH6_0.pre hp22
  replace mk17 := mk17.pre hp22
  replace mk18 := mk18.pre hp22
  replace mk20 := mk20.pre hp22
  replace hoo13 := hoo13.pre hp22
  replace hoo15 := hoo15.pre hp22
  replace hoo21 := hoo21.pre hp22
  replace qz0 := qz0.trans hp22
  replace qz1 := qz1.trans hp22
  have hlH22 := hp22.length_le
  obtain ⟨d0a, d0b, d0c⟩ := bx0.sys
  obtain ⟨d1a, d1b, d1c⟩ := bx1.sys
  obtain ⟨eo7a, eo7b, eo7c⟩ := bxo7.sys
  obtain ⟨eo9a, eo9b, eo9c⟩ := bxo9.sys
  try simp (maxSteps := 1000000) [go_sem, hbig0, hbig1, hneg0, hneg1, hng17, hng18, hng20, hp13, hp15, hp21, hp4, one0, one1, one_o7, one_o9, sysV, d0a, d0b, d0c, d1a, d1b, d1c, eo7a, eo7b, eo7c, eo9a, eo9b, eo9c]
  refine implCommonBlocks_ok hoo21.read hl0 hoo22.read hl1 _ ?_
  intro H23 wH23_0 hp23 hoH23_0
  replace bx0 := bx0.pre hp23
  replace bx1 := bx1.pre hp23
  replace bxo7 := bxo7.pre hp23
  replace bxo9 := bxo9.pre hp23
  replace hoo4 := hoo4.pre hp23
  replace hoo5 := hoo5.pre hp23
  replace hoH6_0 := hoH6_0.pre hp23
  replace mk17 := mk17.pre hp23
  replace mk18 := mk18.pre hp23
  replace mk20 := mk20.pre hp23
  replace hoo13 := hoo13.pre hp23
  replace hoo15 := hoo15.pre hp23
  replace hoo21 := hoo21.pre hp23
  replace hoo22 := hoo22.pre hp23
  replace qz0 := qz0.trans hp23
  replace qz1 := qz1.trans hp23
  have hlH23 := hp23.length_le
  obtain ⟨d0a, d0b, d0c⟩ := bx0.sys
  obtain ⟨d1a, d1b, d1c⟩ := bx1.sys
  obtain ⟨eo7a, eo7b, eo7c⟩ := bxo7.sys
  obtain ⟨eo9a, eo9b, eo9c⟩ := bxo9.sys
  try simp (maxSteps := 1000000) [go_sem, hbig0, hbig1, hneg0, hneg1, hng17, hng18, hng20, hp13, hp15, hp21, hp4, one0, one1, one_o7, one_o9, sysV, d0a, d0b, d0c, d1a, d1b, d1c, eo7a, eo7b, eo7c, eo9a, eo9b, eo9c]
  refine eqBlockS_ok hoH23_0.read hoH6_0.read _ ?_
  intro H24 hp24
  replace bx0 := bx0.pre hp24
  replace bx1 := bx1.pre hp24
  replace bxo7 := bxo7.pre hp24
  replace bxo9 := bxo9.pre hp24
  replace hoo4 := hoo4.pre hp24
  replace hoo5 := hoo5.pre hp24
  replace hoH6_0 := hoH6_0.pre hp24
  replace mk17 := mk17.pre hp24
  replace mk18 := mk18.pre hp24
  replace mk20 := mk20.pre hp24
  replace hoo13 := hoo13.pre hp24
  replace hoo15 := hoo15.pre hp24
  replace hoo21 := hoo21.pre hp24
  replace hoo22 := hoo22.pre hp24
  replace hoH23_0 := hoH23_0.pre hp24
  replace qz0 := qz0.trans hp24
  replace qz1 := qz1.trans hp24
  have hlH24 := hp24.length_le
  obtain ⟨d0a, d0b, d0c⟩ := bx0.sys
  obtain ⟨d1a, d1b, d1c⟩ := bx1.sys
  obtain ⟨eo7a, eo7b, eo7c⟩ := bxo7.sys
  obtain ⟨eo9a, eo9b, eo9c⟩ := bxo9.sys
  try simp (maxSteps := 1000000) [go_sem, hbig0, hbig1, hneg0, hneg1, hng17, hng18, hng20, hp13, hp15, hp21, hp4, one0, one1, one_o7, one_o9, sysV, d0a, d0b, d0c, d1a, d1b, d1c, eo7a, eo7b, eo7c, eo9a, eo9b, eo9c]
  refine heldBlocks_ok mk20 (by omega) (by omega) _ ?_
  try simp (maxSteps := 1000000) [go_sem, hbig0, hbig1, hneg0, hneg1, hng17, hng18, hng20, hp13, hp15, hp21, hp4, one0, one1, one_o7, one_o9, sysV, d0a, d0b, d0c, d1a, d1b, d1c, eo7a, eo7b, eo7c, eo9a, eo9b, eo9c]

end Go.Proofs.Ytkgjdmbmdnmilaa
