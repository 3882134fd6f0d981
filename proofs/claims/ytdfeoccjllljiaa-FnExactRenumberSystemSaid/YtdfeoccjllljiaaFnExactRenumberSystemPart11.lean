/- Part 11 of what the proof of the law FnExactRenumberSystem rests on: contracts of functions of the program, for every argument that each names; no statement of the seat is proved here. -/
import Derived.Test.YtdfeoccjllljiaaFnExactRenumberSystemPart10

section
/- The law on RenumberSystem, in abstract terms: its code returns true, for every input. -/
set_option linter.all false
set_option maxRecDepth 20000
set_option maxHeartbeats 8000000
namespace Go.Proofs.Ytdfeoccjllljiaa
open Go.Ab

theorem lawFnExactRenumberSystem (H : Heap) (avs : List Value) (h : argsSay [shSystem, shInts] H avs) : ACalls Try.prog 14 avs H fun v _ => v = .bool true := by
  obtain ⟨_, _, rfl, a0, _, _, rfl, a1, rfl⟩ := h
  obtain ⟨p0, u0, b0, rfl, hp00, hz0, hw0⟩ := says_shSystem a0
  have one0 : u0.oneCell' = true := by obtain ⟨i, o, rfl, _⟩ := hz0; rfl
  obtain ⟨x1, hz1, hw1⟩ := says_shInts a1
  refine acalls_vc (rs := [.tmp 4]) Try.func14 rfl rfl Try.ntmps14 rfl rfl ?_
  obtain ⟨i1, o1, rfl, hat1, hsz1⟩ := hz1
  have hz1 : IntsAt0 H (lv 1 i1 o1 x1.length) x1 := ⟨i1, o1, rfl, hat1, hsz1⟩
  by_cases hbig1 : (1048576 : Int) < x1.length
  · simp (maxSteps := 1000000) [go_sem, hbig1, one0, sysV]
  have hl1 : x1.length ≤ 1048576 := by omega
  have hq1 := hz1.at (by omega)
  have qa1 : H <+: H := List.prefix_refl _
  try simp (maxSteps := 1000000) [go_sem, hbig1, one0, sysV]
  have hp1 : H <+: H ++ [(⟨[.int .i64 p0, u0], true, true⟩ : Blk)] := List.prefix_append _ _
  have bx0 : Holds (H ++ [(⟨[.int .i64 p0, u0], true, true⟩ : Blk)]) (H.length) [.int .i64 p0, u0] := ⟨true, by simp⟩
  have hbH1 : (H ++ [(⟨[.int .i64 p0, u0], true, true⟩ : Blk)]).length = H.length + 1 := by simp
  generalize H ++ [(⟨[.int .i64 p0, u0], true, true⟩ : Blk)] = H1 at hp1 hbH1 bx0 ⊢
  replace qa1 := qa1.trans hp1
  have hlH1 := hp1.length_le
  have qz0 := hp1
  obtain ⟨d0a, d0b, d0c⟩ := bx0.sys
  refine szSystem0_ok (hz0.pre qz0) (by omega) (by omega) _ ?_
  intro H2 hp2
  replace bx0 := bx0.pre hp2
  replace qa1 := qa1.trans hp2
  replace qz0 := qz0.trans hp2
  have hlH2 := hp2.length_le
  obtain ⟨d0a, d0b, d0c⟩ := bx0.sys
  by_cases hbig0 : (1048576 : Int) < b0.length
  · simp (maxSteps := 1000000) [go_sem, hbig0, hbig1, one0, sysV]
  have hneg0 : decide ((1048576 : Int) - b0.length < 0) = false := by simp; omega
  have hl0 : b0.length ≤ 1048576 := by omega
  have hq0 := hz0.at (by omega)
  try simp (maxSteps := 1000000) [go_sem, hbig0, hbig1, hneg0, one0, sysV, d0a, d0b, d0c]
  refine toSys_ok (hq0.pre qz0) hl0 _ ?_
  intro H3 wo3 hp3 hoo3
  replace bx0 := bx0.pre hp3
  replace qa1 := qa1.trans hp3
  replace qz0 := qz0.trans hp3
  have hlH3 := hp3.length_le
  obtain ⟨d0a, d0b, d0c⟩ := bx0.sys
  try simp (maxSteps := 1000000) [go_sem, hbig0, hbig1, hneg0, one0, sysV, d0a, d0b, d0c]
  refine toInts_ok (hq1.pre qa1) hl1 _ ?_
  intro H4 wo4 hp4 hoo4
  replace bx0 := bx0.pre hp4
  replace hoo3 := hoo3.pre hp4
  replace qa1 := qa1.trans hp4
  replace qz0 := qz0.trans hp4
  have hlH4 := hp4.length_le
  obtain ⟨d0a, d0b, d0c⟩ := bx0.sys
  try simp (maxSteps := 1000000) [go_sem, hbig0, hbig1, hneg0, one0, sysV, d0a, d0b, d0c]
  refine specRenumber_ok hoo3.read hl0 hoo4.read hl1 hw1 _ ?_
  intro H5 wH5_0 hp5 hoH5_0
  replace bx0 := bx0.pre hp5
  replace hoo3 := hoo3.pre hp5
  replace hoo4 := hoo4.pre hp5
  replace qa1 := qa1.trans hp5
  replace qz0 := qz0.trans hp5
  have hlH5 := hp5.length_le
  obtain ⟨d0a, d0b, d0c⟩ := bx0.sys
  have one_rH5_0 : wH5_0.oneCell' = true := hoH5_0.read.one
  try simp (maxSteps := 1000000) [go_sem, hbig0, hbig1, hneg0, one0, one_rH5_0, sysV, d0a, d0b, d0c]
  have bxrH5_0 := Holds.last H5 [.int .i64 (rRen p0 b0 x1).1.1, wH5_0]
  have hp6 : H5 <+: H5 ++ [(⟨[.int .i64 (rRen p0 b0 x1).1.1, wH5_0], true, true⟩ : Blk)] := List.prefix_append _ _
  have hbH6 : (H5 ++ [(⟨[.int .i64 (rRen p0 b0 x1).1.1, wH5_0], true, true⟩ : Blk)]).length = H5.length + 1 := by simp
  generalize H5 ++ [(⟨[.int .i64 (rRen p0 b0 x1).1.1, wH5_0], true, true⟩ : Blk)] = H6 at bxrH5_0 hp6 hbH6 ⊢
  replace bx0 := bx0.pre hp6
  replace hoo3 := hoo3.pre hp6
  replace hoo4 := hoo4.pre hp6
  replace hoH5_0 := hoH5_0.pre hp6
  replace qa1 := qa1.trans hp6
  replace qz0 := qz0.trans hp6
  have hlH6 := hp6.length_le
  obtain ⟨d0a, d0b, d0c⟩ := bx0.sys
  obtain ⟨erH5_0a, erH5_0b, erH5_0c⟩ := bxrH5_0.sys
  try simp (maxSteps := 1000000) [go_sem, hbig0, hbig1, hneg0, one0, one_rH5_0, sysV, d0a, d0b, d0c, erH5_0a, erH5_0b, erH5_0c]
  refine toSys_ok (hq0.pre qz0) hl0 _ ?_
  intro H7 wo7 hp7 hoo7
  replace bx0 := bx0.pre hp7
  replace bxrH5_0 := bxrH5_0.pre hp7
  replace hoo3 := hoo3.pre hp7
  replace hoo4 := hoo4.pre hp7
  replace hoH5_0 := hoH5_0.pre hp7
  replace qa1 := qa1.trans hp7
  replace qz0 := qz0.trans hp7
  have hlH7 := hp7.length_le
  obtain ⟨d0a, d0b, d0c⟩ := bx0.sys
  obtain ⟨erH5_0a, erH5_0b, erH5_0c⟩ := bxrH5_0.sys
  have one_o7 : wo7.oneCell' = true := hoo7.read.one
  try simp (maxSteps := 1000000) [go_sem, hbig0, hbig1, hneg0, one0, one_o7, one_rH5_0, sysV, d0a, d0b, d0c, erH5_0a, erH5_0b, erH5_0c]
  have bxo7 := Holds.last H7 [.int .i64 p0, wo7]
  have hp8 : H7 <+: H7 ++ [(⟨[.int .i64 p0, wo7], true, true⟩ : Blk)] := List.prefix_append _ _
  have hbH8 : (H7 ++ [(⟨[.int .i64 p0, wo7], true, true⟩ : Blk)]).length = H7.length + 1 := by simp
  generalize H7 ++ [(⟨[.int .i64 p0, wo7], true, true⟩ : Blk)] = H8 at bxo7 hp8 hbH8 ⊢
  replace bx0 := bx0.pre hp8
  replace bxrH5_0 := bxrH5_0.pre hp8
  replace hoo3 := hoo3.pre hp8
  replace hoo4 := hoo4.pre hp8
  replace hoH5_0 := hoH5_0.pre hp8
  replace hoo7 := hoo7.pre hp8
  replace qa1 := qa1.trans hp8
  replace qz0 := qz0.trans hp8
  have hlH8 := hp8.length_le
  obtain ⟨d0a, d0b, d0c⟩ := bx0.sys
  obtain ⟨erH5_0a, erH5_0b, erH5_0c⟩ := bxrH5_0.sys
  obtain ⟨eo7a, eo7b, eo7c⟩ := bxo7.sys
  try simp (maxSteps := 1000000) [go_sem, hbig0, hbig1, hneg0, one0, one_o7, one_rH5_0, sysV, d0a, d0b, d0c, erH5_0a, erH5_0b, erH5_0c, eo7a, eo7b, eo7c]
  refine toInts_ok (hq1.pre qa1) hl1 _ ?_
  intro H9 wo9 hp9 hoo9
  replace bx0 := bx0.pre hp9
  replace bxrH5_0 := bxrH5_0.pre hp9
  replace bxo7 := bxo7.pre hp9
  replace hoo3 := hoo3.pre hp9
  replace hoo4 := hoo4.pre hp9
  replace hoH5_0 := hoH5_0.pre hp9
  replace hoo7 := hoo7.pre hp9
  replace qa1 := qa1.trans hp9
  replace qz0 := qz0.trans hp9
  have hlH9 := hp9.length_le
  obtain ⟨d0a, d0b, d0c⟩ := bx0.sys
  obtain ⟨erH5_0a, erH5_0b, erH5_0c⟩ := bxrH5_0.sys
  obtain ⟨eo7a, eo7b, eo7c⟩ := bxo7.sys
  try simp (maxSteps := 1000000) [go_sem, hbig0, hbig1, hneg0, one0, one_o7, one_rH5_0, sysV, d0a, d0b, d0c, erH5_0a, erH5_0b, erH5_0c, eo7a, eo7b, eo7c]
  refine implRenumber_ok hoo7.read hl0 hoo9.read hl1 hw1 _ ?_
  intro H10 wH10_0 hp10 hoH10_0
  replace bx0 := bx0.pre hp10
  replace bxrH5_0 := bxrH5_0.pre hp10
  replace bxo7 := bxo7.pre hp10
  replace hoo3 := hoo3.pre hp10
  replace hoo4 := hoo4.pre hp10
  replace hoH5_0 := hoH5_0.pre hp10
  replace hoo7 := hoo7.pre hp10
  replace hoo9 := hoo9.pre hp10
  replace qa1 := qa1.trans hp10
  replace qz0 := qz0.trans hp10
  have hlH10 := hp10.length_le
  obtain ⟨d0a, d0b, d0c⟩ := bx0.sys
  obtain ⟨erH5_0a, erH5_0b, erH5_0c⟩ := bxrH5_0.sys
  obtain ⟨eo7a, eo7b, eo7c⟩ := bxo7.sys
  have one_rH10_0 : wH10_0.oneCell' = true := hoH10_0.read.one
  try simp (maxSteps := 1000000) [go_sem, hbig0, hbig1, hneg0, one0, one_o7, one_rH10_0, one_rH5_0, sysV, d0a, d0b, d0c, erH5_0a, erH5_0b, erH5_0c, eo7a, eo7b, eo7c]
  have bxrH10_0 := Holds.last H10 [.int .i64 (rRen p0 b0 x1).1.1, wH10_0]
  have hp11 : H10 <+: H10 ++ [(⟨[.int .i64 (rRen p0 b0 x1).1.1, wH10_0], true, true⟩ : Blk)] := List.prefix_append _ _
  have hbH11 : (H10 ++ [(⟨[.int .i64 (rRen p0 b0 x1).1.1, wH10_0], true, true⟩ : Blk)]).length = H10.length + 1 := by simp
  generalize H10 ++ [(⟨[.int .i64 (rRen p0 b0 x1).1.1, wH10_0], true, true⟩ : Blk)] = H11 at bxrH10_0 hp11 hbH11 ⊢
  replace bx0 := bx0.pre hp11
  replace bxrH5_0 := bxrH5_0.pre hp11
  replace bxo7 := bxo7.pre hp11
  replace hoo3 := hoo3.pre hp11
  replace hoo4 := hoo4.pre hp11
  replace hoH5_0 := hoH5_0.pre hp11
  replace hoo7 := hoo7.pre hp11
  replace hoo9 := hoo9.pre hp11
  replace hoH10_0 := hoH10_0.pre hp11
  replace qa1 := qa1.trans hp11
  replace qz0 := qz0.trans hp11
  have hlH11 := hp11.length_le
  obtain ⟨d0a, d0b, d0c⟩ := bx0.sys
  obtain ⟨erH5_0a, erH5_0b, erH5_0c⟩ := bxrH5_0.sys
  obtain ⟨eo7a, eo7b, eo7c⟩ := bxo7.sys
  obtain ⟨erH10_0a, erH10_0b, erH10_0c⟩ := bxrH10_0.sys
  try simp (maxSteps := 1000000) [go_sem, hbig0, hbig1, hneg0, one0, one_o7, one_rH10_0, one_rH5_0, sysV, d0a, d0b, d0c, erH5_0a, erH5_0b, erH5_0c, eo7a, eo7b, eo7c, erH10_0a, erH10_0b, erH10_0c]
  refine eqSystem_ok hoH10_0.read hoH5_0.read _ ?_
  intro H12 hp12
  replace bx0 := bx0.pre hp12
  replace bxrH5_0 := bxrH5_0.pre hp12
  replace bxo7 := bxo7.pre hp12
  replace bxrH10_0 := bxrH10_0.pre hp12
  replace hoo3 := hoo3.pre hp12
  replace hoo4 := hoo4.pre hp12
  replace hoH5_0 := hoH5_0.pre hp12
  replace hoo7 := hoo7.pre hp12
  replace hoo9 := hoo9.pre hp12
  replace hoH10_0 := hoH10_0.pre hp12
  replace qa1 := qa1.trans hp12
  replace qz0 := qz0.trans hp12
  have hlH12 := hp12.length_le
  obtain ⟨d0a, d0b, d0c⟩ := bx0.sys
  obtain ⟨erH5_0a, erH5_0b, erH5_0c⟩ := bxrH5_0.sys
  obtain ⟨eo7a, eo7b, eo7c⟩ := bxo7.sys
  obtain ⟨erH10_0a, erH10_0b, erH10_0c⟩ := bxrH10_0.sys
  try simp (maxSteps := 1000000) [go_sem, hbig0, hbig1, hneg0, one0, one_o7, one_rH10_0, one_rH5_0, sysV, d0a, d0b, d0c, erH5_0a, erH5_0b, erH5_0c, eo7a, eo7b, eo7c, erH10_0a, erH10_0b, erH10_0c]
  refine AWp.draw mixed [(0, false), (1, false), (2, true), (3, false), (4, false)] (by kernel_rfl) ?_
  try simp (maxSteps := 1000000) [go_sem, hbig0, hbig1, hneg0, one0, one_o7, one_rH10_0, one_rH5_0, sysV, d0a, d0b, d0c, erH5_0a, erH5_0b, erH5_0c, eo7a, eo7b, eo7c, erH10_0a, erH10_0b, erH10_0c]
  refine toSys_ok (hq0.pre qz0) hl0 _ ?_
  intro H13 wo13 hp13 hoo13
  replace bx0 := bx0.pre hp13
  replace bxrH5_0 := bxrH5_0.pre hp13
  replace bxo7 := bxo7.pre hp13
  replace bxrH10_0 := bxrH10_0.pre hp13
  replace hoo3 := hoo3.pre hp13
  replace hoo4 := hoo4.pre hp13
  replace hoH5_0 := hoH5_0.pre hp13
  replace hoo7 := hoo7.pre hp13
  replace hoo9 := hoo9.pre hp13
  replace hoH10_0 := hoH10_0.pre hp13
  replace qa1 := qa1.trans hp13
  replace qz0 := qz0.trans hp13
  have hlH13 := hp13.length_le
  obtain ⟨d0a, d0b, d0c⟩ := bx0.sys
  obtain ⟨erH5_0a, erH5_0b, erH5_0c⟩ := bxrH5_0.sys
  obtain ⟨eo7a, eo7b, eo7c⟩ := bxo7.sys
  obtain ⟨erH10_0a, erH10_0b, erH10_0c⟩ := bxrH10_0.sys
  try simp (maxSteps := 1000000) [go_sem, hbig0, hbig1, hneg0, hp13, one0, one_o7, one_rH10_0, one_rH5_0, sysV, d0a, d0b, d0c, erH5_0a, erH5_0b, erH5_0c, eo7a, eo7b, eo7c, erH10_0a, erH10_0b, erH10_0c]
  refine eqSystem_ok hoo7.read hoo13.read _ ?_
  intro H14 hp14
  replace bx0 := bx0.pre hp14
  replace bxrH5_0 := bxrH5_0.pre hp14
  replace bxo7 := bxo7.pre hp14
  replace bxrH10_0 := bxrH10_0.pre hp14
  replace hoo3 := hoo3.pre hp14
  replace hoo4 := hoo4.pre hp14
  replace hoH5_0 := hoH5_0.pre hp14
  replace hoo7 := hoo7.pre hp14
  replace hoo9 := hoo9.pre hp14
  replace hoH10_0 := hoH10_0.pre hp14
  replace hoo13 := hoo13.pre hp14
  replace qa1 := qa1.trans hp14
  replace qz0 := qz0.trans hp14
  have hlH14 := hp14.length_le
  obtain ⟨d0a, d0b, d0c⟩ := bx0.sys
  obtain ⟨erH5_0a, erH5_0b, erH5_0c⟩ := bxrH5_0.sys
  obtain ⟨eo7a, eo7b, eo7c⟩ := bxo7.sys
  obtain ⟨erH10_0a, erH10_0b, erH10_0c⟩ := bxrH10_0.sys
  try simp (maxSteps := 1000000) [go_sem, hbig0, hbig1, hneg0, hp13, one0, one_o7, one_rH10_0, one_rH5_0, sysV, d0a, d0b, d0c, erH5_0a, erH5_0b, erH5_0c, eo7a, eo7b, eo7c, erH10_0a, erH10_0b, erH10_0c]
  refine toInts_ok (hq1.pre qa1) hl1 _ ?_
  intro H15 wo15 hp15 hoo15
  replace bx0 := bx0.pre hp15
  replace bxrH5_0 := bxrH5_0.pre hp15
  replace bxo7 := bxo7.pre hp15
  replace bxrH10_0 := bxrH10_0.pre hp15
  replace hoo3 := hoo3.pre hp15
  replace hoo4 := hoo4.pre hp15
  replace hoH5_0 := hoH5_0.pre hp15
  replace hoo7 := hoo7.pre hp15
  replace hoo9 := hoo9.pre hp15
  replace hoH10_0 := hoH10_0.pre hp15
  replace hoo13 := hoo13.pre hp15
  replace qa1 := qa1.trans hp15
  replace qz0 := qz0.trans hp15
  have hlH15 := hp15.length_le
  obtain ⟨d0a, d0b, d0c⟩ := bx0.sys
  obtain ⟨erH5_0a, erH5_0b, erH5_0c⟩ := bxrH5_0.sys
  obtain ⟨eo7a, eo7b, eo7c⟩ := bxo7.sys
  obtain ⟨erH10_0a, erH10_0b, erH10_0c⟩ := bxrH10_0.sys
  try simp (maxSteps := 1000000) [go_sem, hbig0, hbig1, hneg0, hp13, one0, one_o7, one_rH10_0, one_rH5_0, sysV, d0a, d0b, d0c, erH5_0a, erH5_0b, erH5_0c, eo7a, eo7b, eo7c, erH10_0a, erH10_0b, erH10_0c]
  refine eqInt64S_ok hoo9.read hoo15.read _ ?_
  try simp (maxSteps := 1000000) [go_sem, hbig0, hbig1, hneg0, hp13, one0, one_o7, one_rH10_0, one_rH5_0, sysV, d0a, d0b, d0c, erH5_0a, erH5_0b, erH5_0c, eo7a, eo7b, eo7c, erH10_0a, erH10_0b, erH10_0c]
  refine markSys_ok hoo7 (by omega) (by omega) _ ?_
  intro H16 hs16 mk16
  replace bx0 := bx0.keepS hs16 (by rintro ⟨h1, h2⟩; omega)
  replace bxrH5_0 := bxrH5_0.keepS hs16 (by rintro ⟨h1, h2⟩; omega)
  replace bxo7 := bxo7.keepS hs16 (by rintro ⟨h1, h2⟩; omega)
  replace bxrH10_0 := bxrH10_0.keepS hs16 (by rintro ⟨h1, h2⟩; omega)
  replace hoo3 := hoo3.keep hs16 (by rintro j ⟨h1, h2⟩ ⟨h3, h4⟩; omega)
  replace hoo4 := hoo4.keep hs16 (by rintro j ⟨h1, h2⟩ ⟨h3, h4⟩; omega)
  replace hoH5_0 := hoH5_0.keep hs16 (by rintro j ⟨h1, h2⟩ ⟨h3, h4⟩; omega)
  replace hoo9 := hoo9.keep hs16 (by rintro j ⟨h1, h2⟩ ⟨h3, h4⟩; omega)
  replace hoH10_0 := hoH10_0.keep hs16 (by rintro j ⟨h1, h2⟩ ⟨h3, h4⟩; omega)
  replace hoo13 := hoo13.keep hs16 (by rintro j ⟨h1, h2⟩ ⟨h3, h4⟩; omega)
  replace hoo15 := hoo15.keep hs16 (by rintro j ⟨h1, h2⟩ ⟨h3, h4⟩; omega)
  replace qa1 := ((Same.of_prefix qa1).trans hs16).prefix (by rintro j hj ⟨h1, h2⟩; omega)
  replace qz0 := ((Same.of_prefix qz0).trans hs16).prefix (by rintro j hj ⟨h1, h2⟩; omega)
  have hlH16 := hs16.1
  obtain ⟨d0a, d0b, d0c⟩ := bx0.sys
  obtain ⟨erH5_0a, erH5_0b, erH5_0c⟩ := bxrH5_0.sys
  obtain ⟨eo7a, eo7b, eo7c⟩ := bxo7.sys
  obtain ⟨erH10_0a, erH10_0b, erH10_0c⟩ := bxrH10_0.sys
  have hng16 : decide ((1 : Int) + ((b0).length * 3 : Nat) < 0) = false := by simp only [decide_eq_false_iff_not]; omega
  try simp only [Int.natCast_mul, Int.cast_ofNat_Int] at hng16
  try simp (maxSteps := 1000000) [go_sem, hbig0, hbig1, hneg0, hng16, hp13, one0, one_o7, one_rH10_0, one_rH5_0, sysV, d0a, d0b, d0c, erH5_0a, erH5_0b, erH5_0c, eo7a, eo7b, eo7c, erH10_0a, erH10_0b, erH10_0c]
  refine markInts_ok hoo9 (by omega) (by omega) _ ?_
  intro H17 hs17 mk17
  replace bx0 := bx0.keepS hs17 (by rintro ⟨h1, h2⟩; omega)
  replace bxrH5_0 := bxrH5_0.keepS hs17 (by rintro ⟨h1, h2⟩; omega)
  replace bxo7 := bxo7.keepS hs17 (by rintro ⟨h1, h2⟩; omega)
  replace bxrH10_0 := bxrH10_0.keepS hs17 (by rintro ⟨h1, h2⟩; omega)
  replace hoo3 := hoo3.keep hs17 (by rintro j ⟨h1, h2⟩ ⟨h3, h4⟩; omega)
  replace hoo4 := hoo4.keep hs17 (by rintro j ⟨h1, h2⟩ ⟨h3, h4⟩; omega)
  replace hoH5_0 := hoH5_0.keep hs17 (by rintro j ⟨h1, h2⟩ ⟨h3, h4⟩; omega)
  replace mk16 := mk16.keep hs17 (by rintro j ⟨h1, h2⟩ ⟨h3, h4⟩; omega)
  replace hoH10_0 := hoH10_0.keep hs17 (by rintro j ⟨h1, h2⟩ ⟨h3, h4⟩; omega)
  replace hoo13 := hoo13.keep hs17 (by rintro j ⟨h1, h2⟩ ⟨h3, h4⟩; omega)
  replace hoo15 := hoo15.keep hs17 (by rintro j ⟨h1, h2⟩ ⟨h3, h4⟩; omega)
  replace qa1 := ((Same.of_prefix qa1).trans hs17).prefix (by rintro j hj ⟨h1, h2⟩; omega)
  replace qz0 := ((Same.of_prefix qz0).trans hs17).prefix (by rintro j hj ⟨h1, h2⟩; omega)
  have hlH17 := hs17.1
  obtain ⟨d0a, d0b, d0c⟩ := bx0.sys
  obtain ⟨erH5_0a, erH5_0b, erH5_0c⟩ := bxrH5_0.sys
  obtain ⟨eo7a, eo7b, eo7c⟩ := bxo7.sys
  obtain ⟨erH10_0a, erH10_0b, erH10_0c⟩ := bxrH10_0.sys
  have hng17 : decide ((1 : Int) + ((b0).length * 3 : Nat) + ((x1).length : Nat) < 0) = false := by simp only [decide_eq_false_iff_not]; omega
  try simp only [Int.natCast_mul, Int.cast_ofNat_Int] at hng17
  try simp (maxSteps := 1000000) [go_sem, hbig0, hbig1, hneg0, hng16, hng17, hp13, one0, one_o7, one_rH10_0, one_rH5_0, sysV, d0a, d0b, d0c, erH5_0a, erH5_0b, erH5_0c, eo7a, eo7b, eo7c, erH10_0a, erH10_0b, erH10_0c]
  refine eqSystem_ok hoH10_0.read hoH5_0.read _ ?_
  intro H18 hp18
  replace bx0 := bx0.pre hp18
  replace bxrH5_0 := bxrH5_0.pre hp18
  replace bxo7 := bxo7.pre hp18
  replace bxrH10_0 := bxrH10_0.pre hp18
  replace hoo3 := hoo3.pre hp18
  replace hoo4 := hoo4.pre hp18
  replace hoH5_0 := hoH5_0.pre hp18
  replace mk16 := mk16.pre hp18
  replace mk17 := mk17.pre hp18
  replace hoH10_0 := hoH10_0.pre hp18
  replace hoo13 := hoo13.pre hp18
  replace hoo15 := hoo15.pre hp18
  replace qa1 := qa1.trans hp18
  replace qz0 := qz0.trans hp18
  have hlH18 := hp18.length_le
  obtain ⟨d0a, d0b, d0c⟩ := bx0.sys
  obtain ⟨erH5_0a, erH5_0b, erH5_0c⟩ := bxrH5_0.sys
  obtain ⟨eo7a, eo7b, eo7c⟩ := bxo7.sys
  obtain ⟨erH10_0a, erH10_0b, erH10_0c⟩ := bxrH10_0.sys
  try simp (maxSteps := 1000000) [go_sem, hbig0, hbig1, hneg0, hng16, hng17, hp13, one0, one_o7, one_rH10_0, one_rH5_0, sysV, d0a, d0b, d0c, erH5_0a, erH5_0b, erH5_0c, eo7a, eo7b, eo7c, erH10_0a, erH10_0b, erH10_0c]
  refine markSys_ok hoH10_0 (by omega) (by omega) _ ?_
  intro H19 hs19 mk19
  replace bx0 := bx0.keepS hs19 (by rintro ⟨h1, h2⟩; omega)
  replace bxrH5_0 := bxrH5_0.keepS hs19 (by rintro ⟨h1, h2⟩; omega)
  replace bxo7 := bxo7.keepS hs19 (by rintro ⟨h1, h2⟩; omega)
  replace bxrH10_0 := bxrH10_0.keepS hs19 (by rintro ⟨h1, h2⟩; omega)
  replace hoo3 := hoo3.keep hs19 (by rintro j ⟨h1, h2⟩ ⟨h3, h4⟩; omega)
  replace hoo4 := hoo4.keep hs19 (by rintro j ⟨h1, h2⟩ ⟨h3, h4⟩; omega)
  replace hoH5_0 := hoH5_0.keep hs19 (by rintro j ⟨h1, h2⟩ ⟨h3, h4⟩; omega)
  replace mk16 := mk16.keep hs19 (by rintro j ⟨h1, h2⟩ ⟨h3, h4⟩; omega)
  replace mk17 := mk17.keep hs19 (by rintro j ⟨h1, h2⟩ ⟨h3, h4⟩; omega)
  replace hoo13 := hoo13.keep hs19 (by rintro j ⟨h1, h2⟩ ⟨h3, h4⟩; omega)
  replace hoo15 := hoo15.keep hs19 (by rintro j ⟨h1, h2⟩ ⟨h3, h4⟩; omega)
  replace qa1 := ((Same.of_prefix qa1).trans hs19).prefix (by rintro j hj ⟨h1, h2⟩; omega)
  replace qz0 := ((Same.of_prefix qz0).trans hs19).prefix (by rintro j hj ⟨h1, h2⟩; omega)
  have hlH19 := hs19.1
  obtain ⟨d0a, d0b, d0c⟩ := bx0.sys
  obtain ⟨erH5_0a, erH5_0b, erH5_0c⟩ := bxrH5_0.sys
  obtain ⟨eo7a, eo7b, eo7c⟩ := bxo7.sys
  obtain ⟨erH10_0a, erH10_0b, erH10_0c⟩ := bxrH10_0.sys
  have hng19 : decide ((1 : Int) + (((rRen p0 b0 x1).1.2).length * 3 : Nat) < 0) = false := by simp only [decide_eq_false_iff_not]; omega
  try simp only [Int.natCast_mul, Int.cast_ofNat_Int] at hng19
  try simp (maxSteps := 1000000) [go_sem, hbig0, hbig1, hneg0, hng16, hng17, hng19, hp13, one0, one_o7, one_rH10_0, one_rH5_0, sysV, d0a, d0b, d0c, erH5_0a, erH5_0b, erH5_0c, eo7a, eo7b, eo7c, erH10_0a, erH10_0b, erH10_0c]
  refine heldSys_ok mk19 (by omega) (by omega) _ ?_
  intro H20 hp20
  replace bx0 := bx0.pre hp20
  replace bxrH5_0 := bxrH5_0.pre hp20
  replace bxo7 := bxo7.pre hp20
  replace bxrH10_0 := bxrH10_0.pre hp20
  replace hoo3 := hoo3.pre hp20
  replace hoo4 := hoo4.pre hp20
  replace hoH5_0 := hoH5_0.pre hp20
  replace mk16 := mk16.pre hp20
  replace mk17 := mk17.pre hp20
  replace mk19 := mk19.pre hp20
  replace hoo13 := hoo13.pre hp20
  replace hoo15 := hoo15.pre hp20
  replace qa1 := qa1.trans hp20
  replace qz0 := qz0.trans hp20
  have hlH20 := hp20.length_le
  obtain ⟨d0a, d0b, d0c⟩ := bx0.sys
  obtain ⟨erH5_0a, erH5_0b, erH5_0c⟩ := bxrH5_0.sys
  obtain ⟨eo7a, eo7b, eo7c⟩ := bxo7.sys
  obtain ⟨erH10_0a, erH10_0b, erH10_0c⟩ := bxrH10_0.sys
  try simp (maxSteps := 1000000) [go_sem, hbig0, hbig1, hneg0, hng16, hng17, hng19, hp13, one0, one_o7, one_rH10_0, one_rH5_0, sysV, d0a, d0b, d0c, erH5_0a, erH5_0b, erH5_0c, eo7a, eo7b, eo7c, erH10_0a, erH10_0b, erH10_0c]
  refine toSys_ok (hq0.pre qz0) hl0 _ ?_
  intro H21 wo21 hp21 hoo21
  replace bx0 := bx0.pre hp21
  replace bxrH5_0 := bxrH5_0.pre hp21
  replace bxo7 := bxo7.pre hp21
  replace bxrH10_0 := bxrH10_0.pre hp21
  replace hoo3 := hoo3.pre hp21
  replace hoo4 := hoo4.pre hp21
  replace hoH5_0 := hoH5_0.pre hp21
  replace mk16 := mk16.pre hp21
  replace mk17 := mk17.pre hp21
  replace mk19 := mk19.pre hp21
  replace hoo13 := hoo13.pre hp21
  replace hoo15 := hoo15.pre hp21
  replace qa1 := qa1.trans hp21
  replace qz0 := qz0.trans hp21
  have hlH21 := hp21.length_le
  obtain ⟨d0a, d0b, d0c⟩ := bx0.sys
  obtain ⟨erH5_0a, erH5_0b, erH5_0c⟩ := bxrH5_0.sys
  obtain ⟨eo7a, eo7b, eo7c⟩ := bxo7.sys
  obtain ⟨erH10_0a, erH10_0b, erH10_0c⟩ := bxrH10_0.sys
  try simp (maxSteps := 1000000) [go_sem, hbig0, hbig1, hneg0, hng16, hng17, hng19, hp13, one0, one_o7, one_rH10_0, one_rH5_0, sysV, d0a, d0b, d0c, erH5_0a, erH5_0b, erH5_0c, eo7a, eo7b, eo7c, erH10_0a, erH10_0b, erH10_0c]
  refine toInts_ok (hq1.pre qa1) hl1 _ ?_
  intro H22 wo22 hp22 hoo22
  replace bx0 := bx0.pre hp22
  replace bxrH5_0 := bxrH5_0.pre hp22
  replace bxo7 := bxo7.pre hp22
  replace bxrH10_0 := bxrH10_0.pre hp22
  replace hoo3 := hoo3.pre hp22
  replace hoo4 := hoo4.pre hp22
  replace hoH5_0 := hoH5_0.pre hp22
  replace mk16 := mk16.pre hp22
  replace mk17 := mk17.pre hp22
  replace mk19 := mk19.pre hp22
  replace hoo13 := hoo13.pre hp22
  replace hoo15 := hoo15.pre hp22
  replace hoo21 := hoo21.pre hp22
  replace qa1 := qa1.trans hp22
  replace qz0 := qz0.trans hp22
  have hlH22 := hp22.length_le
  obtain ⟨d0a, d0b, d0c⟩ := bx0.sys
  obtain ⟨erH5_0a, erH5_0b, erH5_0c⟩ := bxrH5_0.sys
  obtain ⟨eo7a, eo7b, eo7c⟩ := bxo7.sys
  obtain ⟨erH10_0a, erH10_0b, erH10_0c⟩ := bxrH10_0.sys
  try simp (maxSteps := 1000000) [go_sem, hbig0, hbig1, hneg0, hng16, hng17, hng19, hp13, one0, one_o7, one_rH10_0, one_rH5_0, sysV, d0a, d0b, d0c, erH5_0a, erH5_0b, erH5_0c, eo7a, eo7b, eo7c, erH10_0a, erH10_0b, erH10_0c]
  refine implRenumber_ok hoo21.read hl0 hoo22.read hl1 hw1 _ ?_
  intro H23 wH23_0 hp23 hoH23_0
  replace bx0 := bx0.pre hp23
  replace bxrH5_0 := bxrH5_0.pre hp23
  replace bxo7 := bxo7.pre hp23
  replace bxrH10_0 := bxrH10_0.pre hp23
  replace hoo3 := hoo3.pre hp23
  replace hoo4 := hoo4.pre hp23
  replace hoH5_0 := hoH5_0.pre hp23
  replace mk16 := mk16.pre hp23
  replace mk17 := mk17.pre hp23
  replace mk19 := mk19.pre hp23
  replace hoo13 := hoo13.pre hp23
  replace hoo15 := hoo15.pre hp23
  replace hoo21 := hoo21.pre hp23
  replace hoo22 := hoo22.pre hp23
  replace qa1 := qa1.trans hp23
  replace qz0 := qz0.trans hp23
  have hlH23 := hp23.length_le
  obtain ⟨d0a, d0b, d0c⟩ := bx0.sys
  obtain ⟨erH5_0a, erH5_0b, erH5_0c⟩ := bxrH5_0.sys
  obtain ⟨eo7a, eo7b, eo7c⟩ := bxo7.sys
  obtain ⟨erH10_0a, erH10_0b, erH10_0c⟩ := bxrH10_0.sys
  have one_rH23_0 : wH23_0.oneCell' = true := hoH23_0.read.one
  try simp (maxSteps := 1000000) [go_sem, hbig0, hbig1, hneg0, hng16, hng17, hng19, hp13, one0, one_o7, one_rH10_0, one_rH23_0, one_rH5_0, sysV, d0a, d0b, d0c, erH5_0a, erH5_0b, erH5_0c, eo7a, eo7b, eo7c, erH10_0a, erH10_0b, erH10_0c]
  have bxrH23_0 := Holds.last H23 [.int .i64 (rRen p0 b0 x1).1.1, wH23_0]
  have hp24 : H23 <+: H23 ++ [(⟨[.int .i64 (rRen p0 b0 x1).1.1, wH23_0], true, true⟩ : Blk)] := List.prefix_append _ _
  have hbH24 : (H23 ++ [(⟨[.int .i64 (rRen p0 b0 x1).1.1, wH23_0], true, true⟩ : Blk)]).length = H23.length + 1 := by simp
  generalize H23 ++ [(⟨[.int .i64 (rRen p0 b0 x1).1.1, wH23_0], true, true⟩ : Blk)] = H24 at bxrH23_0 hp24 hbH24 ⊢
  replace bx0 := bx0.pre hp24
  replace bxrH5_0 := bxrH5_0.pre hp24
  replace bxo7 := bxo7.pre hp24
  replace bxrH10_0 := bxrH10_0.pre hp24
  replace hoo3 := hoo3.pre hp24
  replace hoo4 := hoo4.pre hp24
  replace hoH5_0 := hoH5_0.pre hp24
  replace mk16 := mk16.pre hp24
  replace mk17 := mk17.pre hp24
  replace mk19 := mk19.pre hp24
  replace hoo13 := hoo13.pre hp24
  replace hoo15 := hoo15.pre hp24
  replace hoo21 := hoo21.pre hp24
  replace hoo22 := hoo22.pre hp24
  replace hoH23_0 := hoH23_0.pre hp24
  replace qa1 := qa1.trans hp24
  replace qz0 := qz0.trans hp24
  have hlH24 := hp24.length_le
  obtain ⟨d0a, d0b, d0c⟩ := bx0.sys
  obtain ⟨erH5_0a, erH5_0b, erH5_0c⟩ := bxrH5_0.sys
  obtain ⟨eo7a, eo7b, eo7c⟩ := bxo7.sys
  obtain ⟨erH10_0a, erH10_0b, erH10_0c⟩ := bxrH10_0.sys
  obtain ⟨erH23_0a, erH23_0b, erH23_0c⟩ := bxrH23_0.sys
  try simp (maxSteps := 1000000) [go_sem, hbig0, hbig1, hneg0, hng16, hng17, hng19, hp13, one0, one_o7, one_rH10_0, one_rH23_0, one_rH5_0, sysV, d0a, d0b, d0c, erH5_0a, erH5_0b, erH5_0c, eo7a, eo7b, eo7c, erH10_0a, erH10_0b, erH10_0c, erH23_0a, erH23_0b, erH23_0c]
  refine eqSystem_ok hoH23_0.read hoH5_0.read _ ?_
  intro H25 hp25
  replace bx0 := bx0.pre hp25
  replace bxrH5_0 := bxrH5_0.pre hp25
  replace bxo7 := bxo7.pre hp25
  replace bxrH10_0 := bxrH10_0.pre hp25
  replace bxrH23_0 := bxrH23_0.pre hp25
  replace hoo3 := hoo3.pre hp25
  replace hoo4 := hoo4.pre hp25
  replace hoH5_0 := hoH5_0.pre hp25
  replace mk16 := mk16.pre hp25
  replace mk17 := mk17.pre hp25
  replace mk19 := mk19.pre hp25
  replace hoo13 := hoo13.pre hp25
  replace hoo15 := hoo15.pre hp25
  replace hoo21 := hoo21.pre hp25
  replace hoo22 := hoo22.pre hp25
  replace hoH23_0 := hoH23_0.pre hp25
  replace qa1 := qa1.trans hp25
  replace qz0 := qz0.trans hp25
  have hlH25 := hp25.length_le
  obtain ⟨d0a, d0b, d0c⟩ := bx0.sys
  obtain ⟨erH5_0a, erH5_0b, erH5_0c⟩ := bxrH5_0.sys
  obtain ⟨eo7a, eo7b, eo7c⟩ := bxo7.sys
  obtain ⟨erH10_0a, erH10_0b, erH10_0c⟩ := bxrH10_0.sys
  obtain ⟨erH23_0a, erH23_0b, erH23_0c⟩ := bxrH23_0.sys
  try simp (maxSteps := 1000000) [go_sem, hbig0, hbig1, hneg0, hng16, hng17, hng19, hp13, one0, one_o7, one_rH10_0, one_rH23_0, one_rH5_0, sysV, d0a, d0b, d0c, erH5_0a, erH5_0b, erH5_0c, eo7a, eo7b, eo7c, erH10_0a, erH10_0b, erH10_0c, erH23_0a, erH23_0b, erH23_0c]
  refine heldSys_ok mk19 (by omega) (by omega) _ ?_
  intro H26 hp26
  replace bx0 := bx0.pre hp26
  replace bxrH5_0 := bxrH5_0.pre hp26
  replace bxo7 := bxo7.pre hp26
  replace bxrH10_0 := bxrH10_0.pre hp26
  replace bxrH23_0 := bxrH23_0.pre hp26
  replace hoo3 := hoo3.pre hp26
  replace hoo4 := hoo4.pre hp26
  replace hoH5_0 := hoH5_0.pre hp26
  replace mk16 := mk16.pre hp26
  replace mk17 := mk17.pre hp26
  replace mk19 := mk19.pre hp26
  replace hoo13 := hoo13.pre hp26
  replace hoo15 := hoo15.pre hp26
  replace hoo21 := hoo21.pre hp26
  replace hoo22 := hoo22.pre hp26
  replace hoH23_0 := hoH23_0.pre hp26
  replace qa1 := qa1.trans hp26
  replace qz0 := qz0.trans hp26
  have hlH26 := hp26.length_le
  obtain ⟨d0a, d0b, d0c⟩ := bx0.sys
  obtain ⟨erH5_0a, erH5_0b, erH5_0c⟩ := bxrH5_0.sys
  obtain ⟨eo7a, eo7b, eo7c⟩ := bxo7.sys
  obtain ⟨erH10_0a, erH10_0b, erH10_0c⟩ := bxrH10_0.sys
  obtain ⟨erH23_0a, erH23_0b, erH23_0c⟩ := bxrH23_0.sys
  try simp (maxSteps := 1000000) [go_sem, hbig0, hbig1, hneg0, hng16, hng17, hng19, hp13, one0, one_o7, one_rH10_0, one_rH23_0, one_rH5_0, sysV, d0a, d0b, d0c, erH5_0a, erH5_0b, erH5_0c, eo7a, eo7b, eo7c, erH10_0a, erH10_0b, erH10_0c, erH23_0a, erH23_0b, erH23_0c]

end Go.Proofs.Ytdfeoccjllljiaa
end
