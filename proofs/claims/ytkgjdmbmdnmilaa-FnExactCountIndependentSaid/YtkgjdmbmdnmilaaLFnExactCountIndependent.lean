/- The law on CountIndependent, in abstract terms: its code returns true, for every input. -/
import Derived.Test.YtkgjdmbmdnmilaaCountInd
set_option linter.all false
set_option maxRecDepth 20000
namespace Go.Proofs.Ytkgjdmbmdnmilaa
open Go.Ab

theorem lawFnExactCountIndependent (H : Heap) (avs : List Value) (h : argsSay [shSystem, shInt] H avs) : ACalls Try.prog 18 avs H fun v _ => v = .bool true := by
  obtain ⟨_, _, rfl, a0, _, _, rfl, a1, rfl⟩ := h
  obtain ⟨p0, u0, b0, rfl, hp00, hz0, hw0⟩ := says_shSystem a0
  have one0 : u0.oneCell' = true := by obtain ⟨i, o, rfl, _⟩ := hz0; rfl
  obtain ⟨n1, rfl, hn1⟩ := says_shInt' a1
  refine acalls_vc (rs := [.tmp 4]) Try.func18 rfl rfl Try.ntmps18 rfl rfl ?_
  try simp (maxSteps := 1000000) [go_sem, one0, sysV]
  have hp1 : H <+: H ++ [(⟨[.int .i64 p0, u0], true, true⟩ : Blk)] := List.prefix_append _ _
  have bx0 : Holds (H ++ [(⟨[.int .i64 p0, u0], true, true⟩ : Blk)]) (H.length) [.int .i64 p0, u0] := ⟨true, by simp⟩
  have hbH1 : (H ++ [(⟨[.int .i64 p0, u0], true, true⟩ : Blk)]).length = H.length + 1 := by simp
  generalize H ++ [(⟨[.int .i64 p0, u0], true, true⟩ : Blk)] = H1 at hp1 hbH1 bx0 ⊢
  have hlH1 := hp1.length_le
  have qz0 := hp1
  obtain ⟨d0a, d0b, d0c⟩ := bx0.sys
  refine szSystem0_ok (hz0.pre qz0) (by omega) (by omega) _ ?_
  intro H2 hp2
  replace bx0 := bx0.pre hp2
  replace qz0 := qz0.trans hp2
  have hlH2 := hp2.length_le
  obtain ⟨d0a, d0b, d0c⟩ := bx0.sys
  by_cases hbig0 : (1048576 : Int) < b0.length
  · simp (maxSteps := 1000000) [go_sem, hbig0, one0, sysV]
  have hneg0 : decide ((1048576 : Int) - b0.length < 0) = false := by simp; omega
  have hl0 : b0.length ≤ 1048576 := by omega
  have hq0 := hz0.at (by omega)
  try simp (maxSteps := 1000000) [go_sem, hbig0, hneg0, one0, sysV, d0a, d0b, d0c]
  refine toSys_ok (hq0.pre qz0) hl0 _ ?_
  intro H3 wo3 hp3 hoo3
  replace bx0 := bx0.pre hp3
  replace qz0 := qz0.trans hp3
  have hlH3 := hp3.length_le
  obtain ⟨d0a, d0b, d0c⟩ := bx0.sys
  try simp (maxSteps := 1000000) [go_sem, hbig0, hneg0, one0, sysV, d0a, d0b, d0c]
  refine specCountIndependent_ok hoo3.read hl0 hn1 _ ?_
  intro H4  hp4 
  replace bx0 := bx0.pre hp4
  replace hoo3 := hoo3.pre hp4
  replace qz0 := qz0.trans hp4
  have hlH4 := hp4.length_le
  obtain ⟨d0a, d0b, d0c⟩ := bx0.sys
  try simp (maxSteps := 1000000) [go_sem, hbig0, hneg0, one0, sysV, d0a, d0b, d0c]
  refine toSys_ok (hq0.pre qz0) hl0 _ ?_
  intro H5 wo5 hp5 hoo5
  replace bx0 := bx0.pre hp5
  replace hoo3 := hoo3.pre hp5
  replace qz0 := qz0.trans hp5
  have hlH5 := hp5.length_le
  obtain ⟨d0a, d0b, d0c⟩ := bx0.sys
  have one_o5 : wo5.oneCell' = true := hoo5.read.one
  try simp (maxSteps := 1000000) [go_sem, hbig0, hneg0, one0, one_o5, sysV, d0a, d0b, d0c]
  have bxo5 := Holds.last H5 [.int .i64 p0, wo5]
  have hp6 : H5 <+: H5 ++ [(⟨[.int .i64 p0, wo5], true, true⟩ : Blk)] := List.prefix_append _ _
  have hbH6 : (H5 ++ [(⟨[.int .i64 p0, wo5], true, true⟩ : Blk)]).length = H5.length + 1 := by simp
  generalize H5 ++ [(⟨[.int .i64 p0, wo5], true, true⟩ : Blk)] = H6 at bxo5 hp6 hbH6 ⊢
  replace bx0 := bx0.pre hp6
  replace hoo3 := hoo3.pre hp6
  replace hoo5 := hoo5.pre hp6
  replace qz0 := qz0.trans hp6
  have hlH6 := hp6.length_le
  obtain ⟨d0a, d0b, d0c⟩ := bx0.sys
  obtain ⟨eo5a, eo5b, eo5c⟩ := bxo5.sys
  try simp (maxSteps := 1000000) [go_sem, hbig0, hneg0, one0, one_o5, sysV, d0a, d0b, d0c, eo5a, eo5b, eo5c]
  refine implCountIndependent_ok hoo5.read hl0 hn1 _ ?_
  intro H7  hp7 
  replace bx0 := bx0.pre hp7
  replace bxo5 := bxo5.pre hp7
  replace hoo3 := hoo3.pre hp7
  replace hoo5 := hoo5.pre hp7
  replace qz0 := qz0.trans hp7
  have hlH7 := hp7.length_le
  obtain ⟨d0a, d0b, d0c⟩ := bx0.sys
  obtain ⟨eo5a, eo5b, eo5c⟩ := bxo5.sys
  try simp (maxSteps := 1000000) [go_sem, hbig0, hneg0, one0, one_o5, sysV, d0a, d0b, d0c, eo5a, eo5b, eo5c]
  refine AWp.draw mixed [(0, false), (1, false), (2, true), (3, false), (4, false)] (by kernel_rfl) ?_
  try simp (maxSteps := 1000000) [go_sem, hbig0, hneg0, one0, one_o5, sysV, d0a, d0b, d0c, eo5a, eo5b, eo5c]
  refine toSys_ok (hq0.pre qz0) hl0 _ ?_
  intro H8 wo8 hp8 hoo8
  replace bx0 := bx0.pre hp8
  replace bxo5 := bxo5.pre hp8
  replace hoo3 := hoo3.pre hp8
  replace hoo5 := hoo5.pre hp8
  replace qz0 := qz0.trans hp8
  have hlH8 := hp8.length_le
  obtain ⟨d0a, d0b, d0c⟩ := bx0.sys
  obtain ⟨eo5a, eo5b, eo5c⟩ := bxo5.sys
  try simp (maxSteps := 1000000) [go_sem, hbig0, hneg0, hp8, one0, one_o5, sysV, d0a, d0b, d0c, eo5a, eo5b, eo5c]
  refine eqSystem_ok hoo5.read hoo8.read _ ?_
  intro H9 hp9
  replace bx0 := bx0.pre hp9
  replace bxo5 := bxo5.pre hp9
  replace hoo3 := hoo3.pre hp9
  replace hoo5 := hoo5.pre hp9
  replace hoo8 := hoo8.pre hp9
  replace qz0 := qz0.trans hp9
  have hlH9 := hp9.length_le
  obtain ⟨d0a, d0b, d0c⟩ := bx0.sys
  obtain ⟨eo5a, eo5b, eo5c⟩ := bxo5.sys
  try simp (maxSteps := 1000000) [go_sem, hbig0, hneg0, hp8, one0, one_o5, sysV, d0a, d0b, d0c, eo5a, eo5b, eo5c]

end Go.Proofs.Ytkgjdmbmdnmilaa
