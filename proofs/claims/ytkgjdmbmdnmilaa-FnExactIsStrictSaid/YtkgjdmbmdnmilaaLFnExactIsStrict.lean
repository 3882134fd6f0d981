/- The law on IsStrict, in abstract terms: its code returns true, for every input. -/
import Derived.Test.YtkgjdmbmdnmilaaCount
set_option linter.all false
set_option maxRecDepth 20000
namespace Go.Proofs.Ytkgjdmbmdnmilaa
open Go.Ab

theorem lawFnExactIsStrict (H : Heap) (avs : List Value) (h : argsSay [shSystem, shInt, shInts] H avs) : ACalls Try.prog 15 avs H fun v _ => v = .bool true := by
  obtain ⟨_, _, rfl, a0, _, _, rfl, a1, _, _, rfl, a2, rfl⟩ := h
  obtain ⟨p0, u0, b0, rfl, hp00, hz0, hw0⟩ := says_shSystem a0
  have one0 : u0.oneCell' = true := by obtain ⟨i, o, rfl, _⟩ := hz0; rfl
  obtain ⟨n1, rfl, hn1⟩ := says_shInt' a1
  obtain ⟨x2, hz2, hw2⟩ := says_shInts a2
  refine acalls_vc (rs := [.tmp 6]) Try.func15 rfl rfl Try.ntmps15 rfl rfl ?_
  obtain ⟨i2, o2, rfl, hat2, hsz2⟩ := hz2
  have hz2 : IntsAt0 H (lv 1 i2 o2 x2.length) x2 := ⟨i2, o2, rfl, hat2, hsz2⟩
  by_cases hbig2 : (1048576 : Int) < x2.length
  · simp (maxSteps := 1000000) [go_sem, hbig2, one0, sysV]
  have hl2 : x2.length ≤ 1048576 := by omega
  have hq2 := hz2.at (by omega)
  have qa2 : H <+: H := List.prefix_refl _
  try simp (maxSteps := 1000000) [go_sem, hbig2, one0, sysV]
  have hp1 : H <+: H ++ [(⟨[.int .i64 p0, u0], true, true⟩ : Blk)] := List.prefix_append _ _
  have bx0 : Holds (H ++ [(⟨[.int .i64 p0, u0], true, true⟩ : Blk)]) (H.length) [.int .i64 p0, u0] := ⟨true, by simp⟩
  have hbH1 : (H ++ [(⟨[.int .i64 p0, u0], true, true⟩ : Blk)]).length = H.length + 1 := by simp
  generalize H ++ [(⟨[.int .i64 p0, u0], true, true⟩ : Blk)] = H1 at hp1 hbH1 bx0 ⊢
  replace qa2 := qa2.trans hp1
  have hlH1 := hp1.length_le
  have qz0 := hp1
  obtain ⟨d0a, d0b, d0c⟩ := bx0.sys
  refine szSystem0_ok (hz0.pre qz0) (by omega) (by omega) _ ?_
  intro H2 hp2
  replace bx0 := bx0.pre hp2
  replace qa2 := qa2.trans hp2
  replace qz0 := qz0.trans hp2
  have hlH2 := hp2.length_le
  obtain ⟨d0a, d0b, d0c⟩ := bx0.sys
  by_cases hbig0 : (1048576 : Int) < b0.length
  · simp (maxSteps := 1000000) [go_sem, hbig0, hbig2, one0, sysV]
  have hneg0 : decide ((1048576 : Int) - b0.length < 0) = false := by simp; omega
  have hl0 : b0.length ≤ 1048576 := by omega
  have hq0 := hz0.at (by omega)
  try simp (maxSteps := 1000000) [go_sem, hbig0, hbig2, hneg0, one0, sysV, d0a, d0b, d0c]
  refine toSys_ok (hq0.pre qz0) hl0 _ ?_
  intro H3 wo3 hp3 hoo3
  replace bx0 := bx0.pre hp3
  replace qa2 := qa2.trans hp3
  replace qz0 := qz0.trans hp3
  have hlH3 := hp3.length_le
  obtain ⟨d0a, d0b, d0c⟩ := bx0.sys
  try simp (maxSteps := 1000000) [go_sem, hbig0, hbig2, hneg0, one0, sysV, d0a, d0b, d0c]
  refine toInts_ok (hq2.pre qa2) hl2 _ ?_
  intro H4 wo4 hp4 hoo4
  replace bx0 := bx0.pre hp4
  replace hoo3 := hoo3.pre hp4
  replace qa2 := qa2.trans hp4
  replace qz0 := qz0.trans hp4
  have hlH4 := hp4.length_le
  obtain ⟨d0a, d0b, d0c⟩ := bx0.sys
  try simp (maxSteps := 1000000) [go_sem, hbig0, hbig2, hneg0, one0, sysV, d0a, d0b, d0c]
  refine specIsStrict_ok hoo3.read hl0 hn1 hoo4.read hl2 hw2 _ ?_
  intro H5  hp5 
  replace bx0 := bx0.pre hp5
  replace hoo3 := hoo3.pre hp5
  replace hoo4 := hoo4.pre hp5
  replace qa2 := qa2.trans hp5
  replace qz0 := qz0.trans hp5
  have hlH5 := hp5.length_le
  obtain ⟨d0a, d0b, d0c⟩ := bx0.sys
  try simp (maxSteps := 1000000) [go_sem, hbig0, hbig2, hneg0, one0, sysV, d0a, d0b, d0c]
  refine toSys_ok (hq0.pre qz0) hl0 _ ?_
  intro H6 wo6 hp6 hoo6
  replace bx0 := bx0.pre hp6
  replace hoo3 := hoo3.pre hp6
  replace hoo4 := hoo4.pre hp6
  replace qa2 := qa2.trans hp6
  replace qz0 := qz0.trans hp6
  have hlH6 := hp6.length_le
  obtain ⟨d0a, d0b, d0c⟩ := bx0.sys
  have one_o6 : wo6.oneCell' = true := hoo6.read.one
  try simp (maxSteps := 1000000) [go_sem, hbig0, hbig2, hneg0, one0, one_o6, sysV, d0a, d0b, d0c]
  have bxo6 := Holds.last H6 [.int .i64 p0, wo6]
  have hp7 : H6 <+: H6 ++ [(⟨[.int .i64 p0, wo6], true, true⟩ : Blk)] := List.prefix_append _ _
  have hbH7 : (H6 ++ [(⟨[.int .i64 p0, wo6], true, true⟩ : Blk)]).length = H6.length + 1 := by simp
  generalize H6 ++ [(⟨[.int .i64 p0, wo6], true, true⟩ : Blk)] = H7 at bxo6 hp7 hbH7 ⊢
  replace bx0 := bx0.pre hp7
  replace hoo3 := hoo3.pre hp7
  replace hoo4 := hoo4.pre hp7
  replace hoo6 := hoo6.pre hp7
  replace qa2 := qa2.trans hp7
  replace qz0 := qz0.trans hp7
  have hlH7 := hp7.length_le
  obtain ⟨d0a, d0b, d0c⟩ := bx0.sys
  obtain ⟨eo6a, eo6b, eo6c⟩ := bxo6.sys
  try simp (maxSteps := 1000000) [go_sem, hbig0, hbig2, hneg0, one0, one_o6, sysV, d0a, d0b, d0c, eo6a, eo6b, eo6c]
  refine toInts_ok (hq2.pre qa2) hl2 _ ?_
  intro H8 wo8 hp8 hoo8
  replace bx0 := bx0.pre hp8
  replace bxo6 := bxo6.pre hp8
  replace hoo3 := hoo3.pre hp8
  replace hoo4 := hoo4.pre hp8
  replace hoo6 := hoo6.pre hp8
  replace qa2 := qa2.trans hp8
  replace qz0 := qz0.trans hp8
  have hlH8 := hp8.length_le
  obtain ⟨d0a, d0b, d0c⟩ := bx0.sys
  obtain ⟨eo6a, eo6b, eo6c⟩ := bxo6.sys
  try simp (maxSteps := 1000000) [go_sem, hbig0, hbig2, hneg0, one0, one_o6, sysV, d0a, d0b, d0c, eo6a, eo6b, eo6c]
  refine implIsStrict_ok hoo6.read hl0 hn1 hoo8.read hl2 hw2 _ ?_
  intro H9  hp9 
  replace bx0 := bx0.pre hp9
  replace bxo6 := bxo6.pre hp9
  replace hoo3 := hoo3.pre hp9
  replace hoo4 := hoo4.pre hp9
  replace hoo6 := hoo6.pre hp9
  replace hoo8 := hoo8.pre hp9
  replace qa2 := qa2.trans hp9
  replace qz0 := qz0.trans hp9
  have hlH9 := hp9.length_le
  obtain ⟨d0a, d0b, d0c⟩ := bx0.sys
  obtain ⟨eo6a, eo6b, eo6c⟩ := bxo6.sys
  try simp (maxSteps := 1000000) [go_sem, hbig0, hbig2, hneg0, one0, one_o6, sysV, d0a, d0b, d0c, eo6a, eo6b, eo6c]
  refine AWp.draw mixed [(0, false), (1, false), (2, true), (3, false), (4, false)] (by kernel_rfl) ?_
  try simp (maxSteps := 1000000) [go_sem, hbig0, hbig2, hneg0, one0, one_o6, sysV, d0a, d0b, d0c, eo6a, eo6b, eo6c]
  refine toSys_ok (hq0.pre qz0) hl0 _ ?_
  intro H10 wo10 hp10 hoo10
  replace bx0 := bx0.pre hp10
  replace bxo6 := bxo6.pre hp10
  replace hoo3 := hoo3.pre hp10
  replace hoo4 := hoo4.pre hp10
  replace hoo6 := hoo6.pre hp10
  replace hoo8 := hoo8.pre hp10
  replace qa2 := qa2.trans hp10
  replace qz0 := qz0.trans hp10
  have hlH10 := hp10.length_le
  obtain ⟨d0a, d0b, d0c⟩ := bx0.sys
  obtain ⟨eo6a, eo6b, eo6c⟩ := bxo6.sys
  try simp (maxSteps := 1000000) [go_sem, hbig0, hbig2, hneg0, hp10, one0, one_o6, sysV, d0a, d0b, d0c, eo6a, eo6b, eo6c]
  refine eqSystem_ok hoo6.read hoo10.read _ ?_
  intro H11 hp11
  replace bx0 := bx0.pre hp11
  replace bxo6 := bxo6.pre hp11
  replace hoo3 := hoo3.pre hp11
  replace hoo4 := hoo4.pre hp11
  replace hoo6 := hoo6.pre hp11
  replace hoo8 := hoo8.pre hp11
  replace hoo10 := hoo10.pre hp11
  replace qa2 := qa2.trans hp11
  replace qz0 := qz0.trans hp11
  have hlH11 := hp11.length_le
  obtain ⟨d0a, d0b, d0c⟩ := bx0.sys
  obtain ⟨eo6a, eo6b, eo6c⟩ := bxo6.sys
  try simp (maxSteps := 1000000) [go_sem, hbig0, hbig2, hneg0, hp10, one0, one_o6, sysV, d0a, d0b, d0c, eo6a, eo6b, eo6c]
  refine toInts_ok (hq2.pre qa2) hl2 _ ?_
  intro H12 wo12 hp12 hoo12
  replace bx0 := bx0.pre hp12
  replace bxo6 := bxo6.pre hp12
  replace hoo3 := hoo3.pre hp12
  replace hoo4 := hoo4.pre hp12
  replace hoo6 := hoo6.pre hp12
  replace hoo8 := hoo8.pre hp12
  replace hoo10 := hoo10.pre hp12
  replace qa2 := qa2.trans hp12
  replace qz0 := qz0.trans hp12
  have hlH12 := hp12.length_le
  obtain ⟨d0a, d0b, d0c⟩ := bx0.sys
  obtain ⟨eo6a, eo6b, eo6c⟩ := bxo6.sys
  try simp (maxSteps := 1000000) [go_sem, hbig0, hbig2, hneg0, hp10, one0, one_o6, sysV, d0a, d0b, d0c, eo6a, eo6b, eo6c]
  refine eqInt64S_ok hoo8.read hoo12.read _ ?_
  try simp (maxSteps := 1000000) [go_sem, hbig0, hbig2, hneg0, hp10, one0, one_o6, sysV, d0a, d0b, d0c, eo6a, eo6b, eo6c]

end Go.Proofs.Ytkgjdmbmdnmilaa
