/- Part 11 of what the proof of the law FnExactLeadsTo rests on: contracts of functions of the program, for every argument that each names; no statement of the seat is proved here. -/
import Derived.Test.YtdfeoccjllljiaaFnExactLeadsToPart10

section
/- The law on LeadsTo, in abstract terms: its code returns true, for every input. -/
set_option linter.all false
set_option maxRecDepth 20000
set_option maxHeartbeats 8000000
namespace Go.Proofs.Ytdfeoccjllljiaa
open Go.Ab

theorem lawFnExactLeadsTo (H : Heap) (avs : List Value) (h : argsSay [shSystem, shSystem, shInts] H avs) : ACalls Try.prog 13 avs H fun v _ => v = .bool true := by
  obtain ⟨_, _, rfl, a0, _, _, rfl, a1, _, _, rfl, a2, rfl⟩ := h
  obtain ⟨p0, u0, b0, rfl, hp00, hz0, hw0⟩ := says_shSystem a0
  have one0 : u0.oneCell' = true := by obtain ⟨i, o, rfl, _⟩ := hz0; rfl
  obtain ⟨p1, u1, b1, rfl, hp01, hz1, hw1⟩ := says_shSystem a1
  have one1 : u1.oneCell' = true := by obtain ⟨i, o, rfl, _⟩ := hz1; rfl
  obtain ⟨x2, hz2, hw2⟩ := says_shInts a2
  refine acalls_vc (rs := [.tmp 6]) Try.func13 rfl rfl Try.ntmps13 rfl rfl ?_
  obtain ⟨i2, o2, rfl, hat2, hsz2⟩ := hz2
  have hz2 : IntsAt0 H (lv 1 i2 o2 x2.length) x2 := ⟨i2, o2, rfl, hat2, hsz2⟩
  by_cases hbig2 : (1048576 : Int) < x2.length
  · simp (maxSteps := 1000000) [go_sem, hbig2, one0, one1, sysV]
  have hl2 : x2.length ≤ 1048576 := by omega
  have hq2 := hz2.at (by omega)
  have qa2 : H <+: H := List.prefix_refl _
  try simp (maxSteps := 1000000) [go_sem, hbig2, one0, one1, sysV]
  have hp1 : H <+: H ++ [(⟨[.int .i64 p0, u0], true, true⟩ : Blk), (⟨[.int .i64 p1, u1], true, true⟩ : Blk)] := List.prefix_append _ _
  have bx0 : Holds (H ++ [(⟨[.int .i64 p0, u0], true, true⟩ : Blk), (⟨[.int .i64 p1, u1], true, true⟩ : Blk)]) (H.length) [.int .i64 p0, u0] := ⟨true, by simp⟩
  have bx1 : Holds (H ++ [(⟨[.int .i64 p0, u0], true, true⟩ : Blk), (⟨[.int .i64 p1, u1], true, true⟩ : Blk)]) (H.length + 1) [.int .i64 p1, u1] := ⟨true, by simp⟩
  have hbH1 : (H ++ [(⟨[.int .i64 p0, u0], true, true⟩ : Blk), (⟨[.int .i64 p1, u1], true, true⟩ : Blk)]).length = H.length + 2 := by simp
  generalize H ++ [(⟨[.int .i64 p0, u0], true, true⟩ : Blk), (⟨[.int .i64 p1, u1], true, true⟩ : Blk)] = H1 at hp1 hbH1 bx0 bx1 ⊢
  replace qa2 := qa2.trans hp1
  have hlH1 := hp1.length_le
  have qz0 := hp1
  have qz1 := hp1
  obtain ⟨d0a, d0b, d0c⟩ := bx0.sys
  obtain ⟨d1a, d1b, d1c⟩ := bx1.sys
  refine szSystem0_ok (hz0.pre qz0) (by omega) (by omega) _ ?_
  intro H2 hp2
  replace bx0 := bx0.pre hp2
  replace bx1 := bx1.pre hp2
  replace qa2 := qa2.trans hp2
  replace qz0 := qz0.trans hp2
  replace qz1 := qz1.trans hp2
  have hlH2 := hp2.length_le
  obtain ⟨d0a, d0b, d0c⟩ := bx0.sys
  obtain ⟨d1a, d1b, d1c⟩ := bx1.sys
  by_cases hbig0 : (1048576 : Int) < b0.length
  · simp (maxSteps := 1000000) [go_sem, hbig0, hbig2, one0, one1, sysV]
  have hneg0 : decide ((1048576 : Int) - b0.length < 0) = false := by simp; omega
  have hl0 : b0.length ≤ 1048576 := by omega
  have hq0 := hz0.at (by omega)
  try simp (maxSteps := 1000000) [go_sem, hbig0, hbig2, hneg0, one0, one1, sysV, d0a, d0b, d0c, d1a, d1b, d1c]
  refine szSystem0_ok (hz1.pre qz1) (by omega) (by omega) _ ?_
  intro H3 hp3
  replace bx0 := bx0.pre hp3
  replace bx1 := bx1.pre hp3
  replace qa2 := qa2.trans hp3
  replace qz1 := qz1.trans hp3
  replace qz0 := qz0.trans hp3
  have hlH3 := hp3.length_le
  obtain ⟨d0a, d0b, d0c⟩ := bx0.sys
  obtain ⟨d1a, d1b, d1c⟩ := bx1.sys
  by_cases hbig1 : (1048576 - b0.length : Int) < b1.length
  · simp (maxSteps := 1000000) [go_sem, hbig1, hbig0, hbig2, hneg0, one0, one1, sysV]
  have hneg1 : decide ((1048576 - b0.length : Int) - b1.length < 0) = false := by simp; omega
  have hl1 : b1.length ≤ 1048576 := by omega
  have hq1 := hz1.at (by omega)
  try simp (maxSteps := 1000000) [go_sem, hbig0, hbig1, hbig2, hneg0, hneg1, one0, one1, sysV, d0a, d0b, d0c, d1a, d1b, d1c]
  refine AWp.draw mixed [(0, false), (2, false), (4, false), (1, true), (3, false), (5, false), (6, false), (7, false), (8, false), (9, false), (10, false), (11, false)] (by kernel_rfl) ?_
  try simp (maxSteps := 1000000) [go_sem, hbig0, hbig1, hbig2, hneg0, hneg1, one0, one1, sysV, d0a, d0b, d0c, d1a, d1b, d1c]
  refine toSys_ok (hq0.pre qz0) hl0 _ ?_
  intro H4 wo4 hp4 hoo4
  replace bx0 := bx0.pre hp4
  replace bx1 := bx1.pre hp4
  replace qa2 := qa2.trans hp4
  replace qz0 := qz0.trans hp4
  replace qz1 := qz1.trans hp4
  have hlH4 := hp4.length_le
  obtain ⟨d0a, d0b, d0c⟩ := bx0.sys
  obtain ⟨d1a, d1b, d1c⟩ := bx1.sys
  try simp (maxSteps := 1000000) [go_sem, hbig0, hbig1, hbig2, hneg0, hneg1, hp4, one0, one1, sysV, d0a, d0b, d0c, d1a, d1b, d1c]
  refine toSys_ok (hq1.pre qz1) hl1 _ ?_
  intro H5 wo5 hp5 hoo5
  replace bx0 := bx0.pre hp5
  replace bx1 := bx1.pre hp5
  replace hoo4 := hoo4.pre hp5
  replace qa2 := qa2.trans hp5
  replace qz0 := qz0.trans hp5
  replace qz1 := qz1.trans hp5
  have hlH5 := hp5.length_le
  obtain ⟨d0a, d0b, d0c⟩ := bx0.sys
  obtain ⟨d1a, d1b, d1c⟩ := bx1.sys
  try simp (maxSteps := 1000000) [go_sem, hbig0, hbig1, hbig2, hneg0, hneg1, hp4, one0, one1, sysV, d0a, d0b, d0c, d1a, d1b, d1c]
  refine toInts_ok (hq2.pre qa2) hl2 _ ?_
  intro H6 wo6 hp6 hoo6
  replace bx0 := bx0.pre hp6
  replace bx1 := bx1.pre hp6
  replace hoo4 := hoo4.pre hp6
  replace hoo5 := hoo5.pre hp6
  replace qa2 := qa2.trans hp6
  replace qz0 := qz0.trans hp6
  replace qz1 := qz1.trans hp6
  have hlH6 := hp6.length_le
  obtain ⟨d0a, d0b, d0c⟩ := bx0.sys
  obtain ⟨d1a, d1b, d1c⟩ := bx1.sys
  try simp (maxSteps := 1000000) [go_sem, hbig0, hbig1, hbig2, hneg0, hneg1, hp4, one0, one1, sysV, d0a, d0b, d0c, d1a, d1b, d1c]
  refine specLeads_ok hoo4.read hl0 hoo5.read hl1 hoo6.read hl2 hw2 _ ?_
  intro H7  hp7 
  replace bx0 := bx0.pre hp7
  replace bx1 := bx1.pre hp7
  replace hoo4 := hoo4.pre hp7
  replace hoo5 := hoo5.pre hp7
  replace hoo6 := hoo6.pre hp7
  replace qa2 := qa2.trans hp7
  replace qz0 := qz0.trans hp7
  replace qz1 := qz1.trans hp7
  have hlH7 := hp7.length_le
  obtain ⟨d0a, d0b, d0c⟩ := bx0.sys
  obtain ⟨d1a, d1b, d1c⟩ := bx1.sys
  try simp (maxSteps := 1000000) [go_sem, hbig0, hbig1, hbig2, hneg0, hneg1, hp4, one0, one1, sysV, d0a, d0b, d0c, d1a, d1b, d1c]
  refine toSys_ok (hq0.pre qz0) hl0 _ ?_
  intro H8 wo8 hp8 hoo8
  replace bx0 := bx0.pre hp8
  replace bx1 := bx1.pre hp8
  replace hoo4 := hoo4.pre hp8
  replace hoo5 := hoo5.pre hp8
  replace hoo6 := hoo6.pre hp8
  replace qa2 := qa2.trans hp8
  replace qz0 := qz0.trans hp8
  replace qz1 := qz1.trans hp8
  have hlH8 := hp8.length_le
  obtain ⟨d0a, d0b, d0c⟩ := bx0.sys
  obtain ⟨d1a, d1b, d1c⟩ := bx1.sys
  have one_o8 : wo8.oneCell' = true := hoo8.read.one
  try simp (maxSteps := 1000000) [go_sem, hbig0, hbig1, hbig2, hneg0, hneg1, hp4, one0, one1, one_o8, sysV, d0a, d0b, d0c, d1a, d1b, d1c]
  have bxo8 := Holds.last H8 [.int .i64 p0, wo8]
  have hp9 : H8 <+: H8 ++ [(⟨[.int .i64 p0, wo8], true, true⟩ : Blk)] := List.prefix_append _ _
  have hbH9 : (H8 ++ [(⟨[.int .i64 p0, wo8], true, true⟩ : Blk)]).length = H8.length + 1 := by simp
  generalize H8 ++ [(⟨[.int .i64 p0, wo8], true, true⟩ : Blk)] = H9 at bxo8 hp9 hbH9 ⊢
  replace bx0 := bx0.pre hp9
  replace bx1 := bx1.pre hp9
  replace hoo4 := hoo4.pre hp9
  replace hoo5 := hoo5.pre hp9
  replace hoo6 := hoo6.pre hp9
  replace hoo8 := hoo8.pre hp9
  replace qa2 := qa2.trans hp9
  replace qz0 := qz0.trans hp9
  replace qz1 := qz1.trans hp9
  have hlH9 := hp9.length_le
  obtain ⟨d0a, d0b, d0c⟩ := bx0.sys
  obtain ⟨d1a, d1b, d1c⟩ := bx1.sys
  obtain ⟨eo8a, eo8b, eo8c⟩ := bxo8.sys
  try simp (maxSteps := 1000000) [go_sem, hbig0, hbig1, hbig2, hneg0, hneg1, hp4, one0, one1, one_o8, sysV, d0a, d0b, d0c, d1a, d1b, d1c, eo8a, eo8b, eo8c]
  refine toSys_ok (hq1.pre qz1) hl1 _ ?_
  intro H10 wo10 hp10 hoo10
  replace bx0 := bx0.pre hp10
  replace bx1 := bx1.pre hp10
  replace bxo8 := bxo8.pre hp10
  replace hoo4 := hoo4.pre hp10
  replace hoo5 := hoo5.pre hp10
  replace hoo6 := hoo6.pre hp10
  replace hoo8 := hoo8.pre hp10
  replace qa2 := qa2.trans hp10
  replace qz0 := qz0.trans hp10
  replace qz1 := qz1.trans hp10
  have hlH10 := hp10.length_le
  obtain ⟨d0a, d0b, d0c⟩ := bx0.sys
  obtain ⟨d1a, d1b, d1c⟩ := bx1.sys
  obtain ⟨eo8a, eo8b, eo8c⟩ := bxo8.sys
  have one_o10 : wo10.oneCell' = true := hoo10.read.one
  try simp (maxSteps := 1000000) [go_sem, hbig0, hbig1, hbig2, hneg0, hneg1, hp4, one0, one1, one_o10, one_o8, sysV, d0a, d0b, d0c, d1a, d1b, d1c, eo8a, eo8b, eo8c]
  have bxo10 := Holds.last H10 [.int .i64 p1, wo10]
  have hp11 : H10 <+: H10 ++ [(⟨[.int .i64 p1, wo10], true, true⟩ : Blk)] := List.prefix_append _ _
  have hbH11 : (H10 ++ [(⟨[.int .i64 p1, wo10], true, true⟩ : Blk)]).length = H10.length + 1 := by simp
  generalize H10 ++ [(⟨[.int .i64 p1, wo10], true, true⟩ : Blk)] = H11 at bxo10 hp11 hbH11 ⊢
  replace bx0 := bx0.pre hp11
  replace bx1 := bx1.pre hp11
  replace bxo8 := bxo8.pre hp11
  replace hoo4 := hoo4.pre hp11
  replace hoo5 := hoo5.pre hp11
  replace hoo6 := hoo6.pre hp11
  replace hoo8 := hoo8.pre hp11
  replace hoo10 := hoo10.pre hp11
  replace qa2 := qa2.trans hp11
  replace qz0 := qz0.trans hp11
  replace qz1 := qz1.trans hp11
  have hlH11 := hp11.length_le
  obtain ⟨d0a, d0b, d0c⟩ := bx0.sys
  obtain ⟨d1a, d1b, d1c⟩ := bx1.sys
  obtain ⟨eo8a, eo8b, eo8c⟩ := bxo8.sys
  obtain ⟨eo10a, eo10b, eo10c⟩ := bxo10.sys
  try simp (maxSteps := 1000000) [go_sem, hbig0, hbig1, hbig2, hneg0, hneg1, hp4, one0, one1, one_o10, one_o8, sysV, d0a, d0b, d0c, d1a, d1b, d1c, eo8a, eo8b, eo8c, eo10a, eo10b, eo10c]
  refine toInts_ok (hq2.pre qa2) hl2 _ ?_
  intro H12 wo12 hp12 hoo12
  replace bx0 := bx0.pre hp12
  replace bx1 := bx1.pre hp12
  replace bxo8 := bxo8.pre hp12
  replace bxo10 := bxo10.pre hp12
  replace hoo4 := hoo4.pre hp12
  replace hoo5 := hoo5.pre hp12
  replace hoo6 := hoo6.pre hp12
  replace hoo8 := hoo8.pre hp12
  replace hoo10 := hoo10.pre hp12
  replace qa2 := qa2.trans hp12
  replace qz0 := qz0.trans hp12
  replace qz1 := qz1.trans hp12
  have hlH12 := hp12.length_le
  obtain ⟨d0a, d0b, d0c⟩ := bx0.sys
  obtain ⟨d1a, d1b, d1c⟩ := bx1.sys
  obtain ⟨eo8a, eo8b, eo8c⟩ := bxo8.sys
  obtain ⟨eo10a, eo10b, eo10c⟩ := bxo10.sys
  try simp (maxSteps := 1000000) [go_sem, hbig0, hbig1, hbig2, hneg0, hneg1, hp4, one0, one1, one_o10, one_o8, sysV, d0a, d0b, d0c, d1a, d1b, d1c, eo8a, eo8b, eo8c, eo10a, eo10b, eo10c]
  refine implLeads_ok hoo8.read hl0 hoo10.read hl1 hoo12.read hl2 hw2 _ ?_
  intro H13  hp13 
  replace bx0 := bx0.pre hp13
  replace bx1 := bx1.pre hp13
  replace bxo8 := bxo8.pre hp13
  replace bxo10 := bxo10.pre hp13
  replace hoo4 := hoo4.pre hp13
  replace hoo5 := hoo5.pre hp13
  replace hoo6 := hoo6.pre hp13
  replace hoo8 := hoo8.pre hp13
  replace hoo10 := hoo10.pre hp13
  replace hoo12 := hoo12.pre hp13
  replace qa2 := qa2.trans hp13
  replace qz0 := qz0.trans hp13
  replace qz1 := qz1.trans hp13
  have hlH13 := hp13.length_le
  obtain ⟨d0a, d0b, d0c⟩ := bx0.sys
  obtain ⟨d1a, d1b, d1c⟩ := bx1.sys
  obtain ⟨eo8a, eo8b, eo8c⟩ := bxo8.sys
  obtain ⟨eo10a, eo10b, eo10c⟩ := bxo10.sys
  try simp (maxSteps := 1000000) [go_sem, hbig0, hbig1, hbig2, hneg0, hneg1, hp4, one0, one1, one_o10, one_o8, sysV, d0a, d0b, d0c, d1a, d1b, d1c, eo8a, eo8b, eo8c, eo10a, eo10b, eo10c]
  refine AWp.draw mixed [(0, false), (1, false), (2, true), (3, false), (4, false)] (by kernel_rfl) ?_
  try simp (maxSteps := 1000000) [go_sem, hbig0, hbig1, hbig2, hneg0, hneg1, hp4, one0, one1, one_o10, one_o8, sysV, d0a, d0b, d0c, d1a, d1b, d1c, eo8a, eo8b, eo8c, eo10a, eo10b, eo10c]
  refine toSys_ok (hq0.pre qz0) hl0 _ ?_
  intro H14 wo14 hp14 hoo14
  replace bx0 := bx0.pre hp14
  replace bx1 := bx1.pre hp14
  replace bxo8 := bxo8.pre hp14
  replace bxo10 := bxo10.pre hp14
  replace hoo4 := hoo4.pre hp14
  replace hoo5 := hoo5.pre hp14
  replace hoo6 := hoo6.pre hp14
  replace hoo8 := hoo8.pre hp14
  replace hoo10 := hoo10.pre hp14
  replace hoo12 := hoo12.pre hp14
  replace qa2 := qa2.trans hp14
  replace qz0 := qz0.trans hp14
  replace qz1 := qz1.trans hp14
  have hlH14 := hp14.length_le
  obtain ⟨d0a, d0b, d0c⟩ := bx0.sys
  obtain ⟨d1a, d1b, d1c⟩ := bx1.sys
  obtain ⟨eo8a, eo8b, eo8c⟩ := bxo8.sys
  obtain ⟨eo10a, eo10b, eo10c⟩ := bxo10.sys
  try simp (maxSteps := 1000000) [go_sem, hbig0, hbig1, hbig2, hneg0, hneg1, hp14, hp4, one0, one1, one_o10, one_o8, sysV, d0a, d0b, d0c, d1a, d1b, d1c, eo8a, eo8b, eo8c, eo10a, eo10b, eo10c]
  refine eqSystem_ok hoo8.read hoo14.read _ ?_
  intro H15 hp15
  replace bx0 := bx0.pre hp15
  replace bx1 := bx1.pre hp15
  replace bxo8 := bxo8.pre hp15
  replace bxo10 := bxo10.pre hp15
  replace hoo4 := hoo4.pre hp15
  replace hoo5 := hoo5.pre hp15
  replace hoo6 := hoo6.pre hp15
  replace hoo8 := hoo8.pre hp15
  replace hoo10 := hoo10.pre hp15
  replace hoo12 := hoo12.pre hp15
  replace hoo14 := hoo14.pre hp15
  replace qa2 := qa2.trans hp15
  replace qz0 := qz0.trans hp15
  replace qz1 := qz1.trans hp15
  have hlH15 := hp15.length_le
  obtain ⟨d0a, d0b, d0c⟩ := bx0.sys
  obtain ⟨d1a, d1b, d1c⟩ := bx1.sys
  obtain ⟨eo8a, eo8b, eo8c⟩ := bxo8.sys
  obtain ⟨eo10a, eo10b, eo10c⟩ := bxo10.sys
  try simp (maxSteps := 1000000) [go_sem, hbig0, hbig1, hbig2, hneg0, hneg1, hp14, hp4, one0, one1, one_o10, one_o8, sysV, d0a, d0b, d0c, d1a, d1b, d1c, eo8a, eo8b, eo8c, eo10a, eo10b, eo10c]
  refine AWp.draw mixed [(0, false), (1, false), (2, true), (3, false), (4, false)] (by kernel_rfl) ?_
  try simp (maxSteps := 1000000) [go_sem, hbig0, hbig1, hbig2, hneg0, hneg1, hp14, hp4, one0, one1, one_o10, one_o8, sysV, d0a, d0b, d0c, d1a, d1b, d1c, eo8a, eo8b, eo8c, eo10a, eo10b, eo10c]
  refine toSys_ok (hq1.pre qz1) hl1 _ ?_
  intro H16 wo16 hp16 hoo16
  replace bx0 := bx0.pre hp16
  replace bx1 := bx1.pre hp16
  replace bxo8 := bxo8.pre hp16
  replace bxo10 := bxo10.pre hp16
  replace hoo4 := hoo4.pre hp16
  replace hoo5 := hoo5.pre hp16
  replace hoo6 := hoo6.pre hp16
  replace hoo8 := hoo8.pre hp16
  replace hoo10 := hoo10.pre hp16
  replace hoo12 := hoo12.pre hp16
  replace hoo14 := hoo14.pre hp16
  replace qa2 := qa2.trans hp16
  replace qz0 := qz0.trans hp16
  replace qz1 := qz1.trans hp16
  have hlH16 := hp16.length_le
  obtain ⟨d0a, d0b, d0c⟩ := bx0.sys
  obtain ⟨d1a, d1b, d1c⟩ := bx1.sys
  obtain ⟨eo8a, eo8b, eo8c⟩ := bxo8.sys
  obtain ⟨eo10a, eo10b, eo10c⟩ := bxo10.sys
  try simp (maxSteps := 1000000) [go_sem, hbig0, hbig1, hbig2, hneg0, hneg1, hp14, hp16, hp4, one0, one1, one_o10, one_o8, sysV, d0a, d0b, d0c, d1a, d1b, d1c, eo8a, eo8b, eo8c, eo10a, eo10b, eo10c]
  refine eqSystem_ok hoo10.read hoo16.read _ ?_
  intro H17 hp17
  replace bx0 := bx0.pre hp17
  replace bx1 := bx1.pre hp17
  replace bxo8 := bxo8.pre hp17
  replace bxo10 := bxo10.pre hp17
  replace hoo4 := hoo4.pre hp17
  replace hoo5 := hoo5.pre hp17
  replace hoo6 := hoo6.pre hp17
  replace hoo8 := hoo8.pre hp17
  replace hoo10 := hoo10.pre hp17
  replace hoo12 := hoo12.pre hp17
  replace hoo14 := hoo14.pre hp17
  replace hoo16 := hoo16.pre hp17
  replace qa2 := qa2.trans hp17
  replace qz0 := qz0.trans hp17
  replace qz1 := qz1.trans hp17
  have hlH17 := hp17.length_le
  obtain ⟨d0a, d0b, d0c⟩ := bx0.sys
  obtain ⟨d1a, d1b, d1c⟩ := bx1.sys
  obtain ⟨eo8a, eo8b, eo8c⟩ := bxo8.sys
  obtain ⟨eo10a, eo10b, eo10c⟩ := bxo10.sys
  try simp (maxSteps := 1000000) [go_sem, hbig0, hbig1, hbig2, hneg0, hneg1, hp14, hp16, hp4, one0, one1, one_o10, one_o8, sysV, d0a, d0b, d0c, d1a, d1b, d1c, eo8a, eo8b, eo8c, eo10a, eo10b, eo10c]
  refine toInts_ok (hq2.pre qa2) hl2 _ ?_
  intro H18 wo18 hp18 hoo18
  replace bx0 := bx0.pre hp18
  replace bx1 := bx1.pre hp18
  replace bxo8 := bxo8.pre hp18
  replace bxo10 := bxo10.pre hp18
  replace hoo4 := hoo4.pre hp18
  replace hoo5 := hoo5.pre hp18
  replace hoo6 := hoo6.pre hp18
  replace hoo8 := hoo8.pre hp18
  replace hoo10 := hoo10.pre hp18
  replace hoo12 := hoo12.pre hp18
  replace hoo14 := hoo14.pre hp18
  replace hoo16 := hoo16.pre hp18
  replace qa2 := qa2.trans hp18
  replace qz0 := qz0.trans hp18
  replace qz1 := qz1.trans hp18
  have hlH18 := hp18.length_le
  obtain ⟨d0a, d0b, d0c⟩ := bx0.sys
  obtain ⟨d1a, d1b, d1c⟩ := bx1.sys
  obtain ⟨eo8a, eo8b, eo8c⟩ := bxo8.sys
  obtain ⟨eo10a, eo10b, eo10c⟩ := bxo10.sys
  try simp (maxSteps := 1000000) [go_sem, hbig0, hbig1, hbig2, hneg0, hneg1, hp14, hp16, hp4, one0, one1, one_o10, one_o8, sysV, d0a, d0b, d0c, d1a, d1b, d1c, eo8a, eo8b, eo8c, eo10a, eo10b, eo10c]
  refine eqInt64S_ok hoo12.read hoo18.read _ ?_
  try simp (maxSteps := 1000000) [go_sem, hbig0, hbig1, hbig2, hneg0, hneg1, hp14, hp16, hp4, one0, one1, one_o10, one_o8, sysV, d0a, d0b, d0c, d1a, d1b, d1c, eo8a, eo8b, eo8c, eo10a, eo10b, eo10c]

end Go.Proofs.Ytdfeoccjllljiaa
end
