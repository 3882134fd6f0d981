/- The law on TakeBlock, in abstract terms: its code returns true, for every input. -/
import Derived.Test.YtkgjdmbmdnmilaaTake
set_option linter.all false
set_option maxRecDepth 20000
namespace Go.Proofs.Ytkgjdmbmdnmilaa
open Go.Ab

theorem lawFnExactTakeBlock (H : Heap) (avs : List Value) (h : argsSay [shSystem, shInt] H avs) : ACalls Try.prog 12 avs H fun v _ => v = .bool true := by
  obtain ⟨_, _, rfl, a0, _, _, rfl, a1, rfl⟩ := h
  obtain ⟨p0, u0, b0, rfl, hp00, hz0, hw0⟩ := says_shSystem a0
  have one0 : u0.oneCell' = true := by obtain ⟨i, o, rfl, _⟩ := hz0; rfl
  obtain ⟨n1, rfl, hn1⟩ := says_shInt' a1
  refine acalls_vc (rs := [.tmp 4]) Try.func12 rfl rfl Try.ntmps12 rfl rfl ?_
  try simp (maxSteps := 1000000) [go_sem, one0, sysV]
  have hp1 : H <+: H ++ [(⟨[.int .i64 p0, u0], true, true⟩ : Blk)] := List.prefix_append _ _
  have bx0 : Holds (H ++ [(⟨[.int .i64 p0, u0], true, true⟩ : Blk)]) (H.length) [.int .i64 p0, u0] := ⟨true, by simp⟩
  have hbH1 : (H ++ [(⟨[.int .i64 p0, u0], true, true⟩ : Blk)]).length = H.length + 1 := by simp
  generalize H ++ [(⟨[.int .i64 p0, u0], true, true⟩ : Blk)] = H1 at hp1 hbH1 bx0 ⊢
  have hlH1 := hp1.length_le
  have qz0 := hp1
  obtain ⟨d0a, d0b, d0c⟩ := bx0.sys
  refine szSystem0_ok (hz0.pre qz0) (by omega) (by omega) _ ?_
  intro H2 hp2
  replace bx0 := bx0.pre hp2
  replace qz0 := qz0.trans hp2
  have hlH2 := hp2.length_le
  obtain ⟨d0a, d0b, d0c⟩ := bx0.sys
  by_cases hbig0 : (1048576 : Int) < b0.length
  · simp (maxSteps := 1000000) [go_sem, hbig0, one0, sysV]
  have hneg0 : decide ((1048576 : Int) - b0.length < 0) = false := by simp; omega
  have hl0 : b0.length ≤ 1048576 := by omega
  have hq0 := hz0.at (by omega)
  try simp (maxSteps := 1000000) [go_sem, hbig0, hneg0, one0, sysV, d0a, d0b, d0c]
  refine toSys_ok (hq0.pre qz0) hl0 _ ?_
  intro H3 wo3 hp3 hoo3
  replace bx0 := bx0.pre hp3
  replace qz0 := qz0.trans hp3
  have hlH3 := hp3.length_le
  obtain ⟨d0a, d0b, d0c⟩ := bx0.sys
  try simp (maxSteps := 1000000) [go_sem, hbig0, hneg0, one0, sysV, d0a, d0b, d0c]
  refine specTakeBlock_ok hoo3.read hl0 hn1 _ ?_
  intro H4 wH4_0 hp4 hoH4_0
  replace bx0 := bx0.pre hp4
  replace hoo3 := hoo3.pre hp4
  replace qz0 := qz0.trans hp4
  have hlH4 := hp4.length_le
  obtain ⟨d0a, d0b, d0c⟩ := bx0.sys
  have one_rH4_0 : wH4_0.oneCell' = true := hoH4_0.read.one
  try simp (maxSteps := 1000000) [go_sem, hbig0, hneg0, one0, one_rH4_0, sysV, d0a, d0b, d0c]
  have bxrH4_0 := Holds.last H4 [.int .i64 (rTake p0 b0 n1).1.1, wH4_0]
  have hp5 : H4 <+: H4 ++ [(⟨[.int .i64 (rTake p0 b0 n1).1.1, wH4_0], true, true⟩ : Blk)] := List.prefix_append _ _
  have hbH5 : (H4 ++ [(⟨[.int .i64 (rTake p0 b0 n1).1.1, wH4_0], true, true⟩ : Blk)]).length = H4.length + 1 := by simp
  generalize H4 ++ [(⟨[.int .i64 (rTake p0 b0 n1).1.1, wH4_0], true, true⟩ : Blk)] = H5 at bxrH4_0 hp5 hbH5 ⊢
  replace bx0 := bx0.pre hp5
  replace hoo3 := hoo3.pre hp5
  replace hoH4_0 := hoH4_0.pre hp5
  replace qz0 := qz0.trans hp5
  have hlH5 := hp5.length_le
  obtain ⟨d0a, d0b, d0c⟩ := bx0.sys
  obtain ⟨erH4_0a, erH4_0b, erH4_0c⟩ := bxrH4_0.sys
  try simp (maxSteps := 1000000) [go_sem, hbig0, hneg0, one0, one_rH4_0, sysV, d0a, d0b, d0c, erH4_0a, erH4_0b, erH4_0c]
  refine toSys_ok (hq0.pre qz0) hl0 _ ?_
  intro H6 wo6 hp6 hoo6
  replace bx0 := bx0.pre hp6
  replace bxrH4_0 := bxrH4_0.pre hp6
  replace hoo3 := hoo3.pre hp6
  replace hoH4_0 := hoH4_0.pre hp6
  replace qz0 := qz0.trans hp6
  have hlH6 := hp6.length_le
  obtain ⟨d0a, d0b, d0c⟩ := bx0.sys
  obtain ⟨erH4_0a, erH4_0b, erH4_0c⟩ := bxrH4_0.sys
  have one_o6 : wo6.oneCell' = true := hoo6.read.one
  try simp (maxSteps := 1000000) [go_sem, hbig0, hneg0, one0, one_o6, one_rH4_0, sysV, d0a, d0b, d0c, erH4_0a, erH4_0b, erH4_0c]
  have bxo6 := Holds.last H6 [.int .i64 p0, wo6]
  have hp7 : H6 <+: H6 ++ [(⟨[.int .i64 p0, wo6], true, true⟩ : Blk)] := List.prefix_append _ _
  have hbH7 : (H6 ++ [(⟨[.int .i64 p0, wo6], true, true⟩ : Blk)]).length = H6.length + 1 := by simp
  generalize H6 ++ [(⟨[.int .i64 p0, wo6], true, true⟩ : Blk)] = H7 at bxo6 hp7 hbH7 ⊢
  replace bx0 := bx0.pre hp7
  replace bxrH4_0 := bxrH4_0.pre hp7
  replace hoo3 := hoo3.pre hp7
  replace hoH4_0 := hoH4_0.pre hp7
  replace hoo6 := hoo6.pre hp7
  replace qz0 := qz0.trans hp7
  have hlH7 := hp7.length_le
  obtain ⟨d0a, d0b, d0c⟩ := bx0.sys
  obtain ⟨erH4_0a, erH4_0b, erH4_0c⟩ := bxrH4_0.sys
  obtain ⟨eo6a, eo6b, eo6c⟩ := bxo6.sys
  try simp (maxSteps := 1000000) [go_sem, hbig0, hneg0, one0, one_o6, one_rH4_0, sysV, d0a, d0b, d0c, erH4_0a, erH4_0b, erH4_0c, eo6a, eo6b, eo6c]
  refine implTakeBlock_ok hoo6.read hl0 hn1 _ ?_
  intro H8 wH8_0 hp8 hoH8_0
  replace bx0 := bx0.pre hp8
  replace bxrH4_0 := bxrH4_0.pre hp8
  replace bxo6 := bxo6.pre hp8
  replace hoo3 := hoo3.pre hp8
  replace hoH4_0 := hoH4_0.pre hp8
  replace hoo6 := hoo6.pre hp8
  replace qz0 := qz0.trans hp8
  have hlH8 := hp8.length_le
  obtain ⟨d0a, d0b, d0c⟩ := bx0.sys
  obtain ⟨erH4_0a, erH4_0b, erH4_0c⟩ := bxrH4_0.sys
  obtain ⟨eo6a, eo6b, eo6c⟩ := bxo6.sys
  have one_rH8_0 : wH8_0.oneCell' = true := hoH8_0.read.one
  try simp (maxSteps := 1000000) [go_sem, hbig0, hneg0, one0, one_o6, one_rH4_0, one_rH8_0, sysV, d0a, d0b, d0c, erH4_0a, erH4_0b, erH4_0c, eo6a, eo6b, eo6c]
  have bxrH8_0 := Holds.last H8 [.int .i64 (rTake p0 b0 n1).1.1, wH8_0]
  have hp9 : H8 <+: H8 ++ [(⟨[.int .i64 (rTake p0 b0 n1).1.1, wH8_0], true, true⟩ : Blk)] := List.prefix_append _ _
  have hbH9 : (H8 ++ [(⟨[.int .i64 (rTake p0 b0 n1).1.1, wH8_0], true, true⟩ : Blk)]).length = H8.length + 1 := by simp
  generalize H8 ++ [(⟨[.int .i64 (rTake p0 b0 n1).1.1, wH8_0], true, true⟩ : Blk)] = H9 at bxrH8_0 hp9 hbH9 ⊢
  replace bx0 := bx0.pre hp9
  replace bxrH4_0 := bxrH4_0.pre hp9
  replace bxo6 := bxo6.pre hp9
  replace hoo3 := hoo3.pre hp9
  replace hoH4_0 := hoH4_0.pre hp9
  replace hoo6 := hoo6.pre hp9
  replace hoH8_0 := hoH8_0.pre hp9
  replace qz0 := qz0.trans hp9
  have hlH9 := hp9.length_le
  obtain ⟨d0a, d0b, d0c⟩ := bx0.sys
  obtain ⟨erH4_0a, erH4_0b, erH4_0c⟩ := bxrH4_0.sys
  obtain ⟨eo6a, eo6b, eo6c⟩ := bxo6.sys
  obtain ⟨erH8_0a, erH8_0b, erH8_0c⟩ := bxrH8_0.sys
  try simp (maxSteps := 1000000) [go_sem, hbig0, hneg0, one0, one_o6, one_rH4_0, one_rH8_0, sysV, d0a, d0b, d0c, erH4_0a, erH4_0b, erH4_0c, eo6a, eo6b, eo6c, erH8_0a, erH8_0b, erH8_0c]
  refine eqSystem_ok hoH8_0.read hoH4_0.read _ ?_
  intro H10 hp10
  replace bx0 := bx0.pre hp10
  replace bxrH4_0 := bxrH4_0.pre hp10
  replace bxo6 := bxo6.pre hp10
  replace bxrH8_0 := bxrH8_0.pre hp10
  replace hoo3 := hoo3.pre hp10
  replace hoH4_0 := hoH4_0.pre hp10
  replace hoo6 := hoo6.pre hp10
  replace hoH8_0 := hoH8_0.pre hp10
  replace qz0 := qz0.trans hp10
  have hlH10 := hp10.length_le
  obtain ⟨d0a, d0b, d0c⟩ := bx0.sys
  obtain ⟨erH4_0a, erH4_0b, erH4_0c⟩ := bxrH4_0.sys
  obtain ⟨eo6a, eo6b, eo6c⟩ := bxo6.sys
  obtain ⟨erH8_0a, erH8_0b, erH8_0c⟩ := bxrH8_0.sys
  try simp (maxSteps := 1000000) [go_sem, hbig0, hneg0, one0, one_o6, one_rH4_0, one_rH8_0, sysV, d0a, d0b, d0c, erH4_0a, erH4_0b, erH4_0c, eo6a, eo6b, eo6c, erH8_0a, erH8_0b, erH8_0c]
  refine AWp.draw mixed [(0, false), (1, false), (2, true), (3, false), (4, false)] (by kernel_rfl) ?_
  try simp (maxSteps := 1000000) [go_sem, hbig0, hneg0, one0, one_o6, one_rH4_0, one_rH8_0, sysV, d0a, d0b, d0c, erH4_0a, erH4_0b, erH4_0c, eo6a, eo6b, eo6c, erH8_0a, erH8_0b, erH8_0c]
  refine toSys_ok (hq0.pre qz0) hl0 _ ?_
  intro H11 wo11 hp11 hoo11
  replace bx0 := bx0.pre hp11
  replace bxrH4_0 := bxrH4_0.pre hp11
  replace bxo6 := bxo6.pre hp11
  replace bxrH8_0 := bxrH8_0.pre hp11
  replace hoo3 := hoo3.pre hp11
  replace hoH4_0 := hoH4_0.pre hp11
  replace hoo6 := hoo6.pre hp11
  replace hoH8_0 := hoH8_0.pre hp11
  replace qz0 := qz0.trans hp11
  have hlH11 := hp11.length_le
  obtain ⟨d0a, d0b, d0c⟩ := bx0.sys
  obtain ⟨erH4_0a, erH4_0b, erH4_0c⟩ := bxrH4_0.sys
  obtain ⟨eo6a, eo6b, eo6c⟩ := bxo6.sys
  obtain ⟨erH8_0a, erH8_0b, erH8_0c⟩ := bxrH8_0.sys
  try simp (maxSteps := 1000000) [go_sem, hbig0, hneg0, hp11, one0, one_o6, one_rH4_0, one_rH8_0, sysV, d0a, d0b, d0c, erH4_0a, erH4_0b, erH4_0c, eo6a, eo6b, eo6c, erH8_0a, erH8_0b, erH8_0c]
  refine eqSystem_ok hoo6.read hoo11.read _ ?_
  intro H12 hp12
  replace bx0 := bx0.pre hp12
  replace bxrH4_0 := bxrH4_0.pre hp12
  replace bxo6 := bxo6.pre hp12
  replace bxrH8_0 := bxrH8_0.pre hp12
  replace hoo3 := hoo3.pre hp12
  replace hoH4_0 := hoH4_0.pre hp12
  replace hoo6 := hoo6.pre hp12
  replace hoH8_0 := hoH8_0.pre hp12
  replace hoo11 := hoo11.pre hp12
  replace qz0 := qz0.trans hp12
  have hlH12 := hp12.length_le
  obtain ⟨d0a, d0b, d0c⟩ := bx0.sys
  obtain ⟨erH4_0a, erH4_0b, erH4_0c⟩ := bxrH4_0.sys
  obtain ⟨eo6a, eo6b, eo6c⟩ := bxo6.sys
  obtain ⟨erH8_0a, erH8_0b, erH8_0c⟩ := bxrH8_0.sys
  try simp (maxSteps := 1000000) [go_sem, hbig0, hneg0, hp11, one0, one_o6, one_rH4_0, one_rH8_0, sysV, d0a, d0b, d0c, erH4_0a, erH4_0b, erH4_0c, eo6a, eo6b, eo6c, erH8_0a, erH8_0b, erH8_0c]
  refine markSys_ok hoo6 (by omega) (by omega) _ ?_
  intro H13 hs13 mk13
  replace bx0 := bx0.keepS hs13 (by rintro ⟨h1, h2⟩; omega)
  replace bxrH4_0 := bxrH4_0.keepS hs13 (by rintro ⟨h1, h2⟩; omega)
  replace bxo6 := bxo6.keepS hs13 (by rintro ⟨h1, h2⟩; omega)
  replace bxrH8_0 := bxrH8_0.keepS hs13 (by rintro ⟨h1, h2⟩; omega)
  replace hoo3 := hoo3.keep hs13 (by rintro j ⟨h1, h2⟩ ⟨h3, h4⟩; omega)
  replace hoH4_0 := hoH4_0.keep hs13 (by rintro j ⟨h1, h2⟩ ⟨h3, h4⟩; omega)
  replace hoH8_0 := hoH8_0.keep hs13 (by rintro j ⟨h1, h2⟩ ⟨h3, h4⟩; omega)
  replace hoo11 := hoo11.keep hs13 (by rintro j ⟨h1, h2⟩ ⟨h3, h4⟩; omega)
  replace qz0 := ((Same.of_prefix qz0).trans hs13).prefix (by rintro j hj ⟨h1, h2⟩; omega)
  have hlH13 := hs13.1
  obtain ⟨d0a, d0b, d0c⟩ := bx0.sys
  obtain ⟨erH4_0a, erH4_0b, erH4_0c⟩ := bxrH4_0.sys
  obtain ⟨eo6a, eo6b, eo6c⟩ := bxo6.sys
  obtain ⟨erH8_0a, erH8_0b, erH8_0c⟩ := bxrH8_0.sys
  have hng13 : decide ((1 : Int) + ((b0).length * 3 : Nat) < 0) = false := by simp only [decide_eq_false_iff_not]; omega
  try simp only [Int.natCast_mul, Int.cast_ofNat_Int] at hng13
  try simp (maxSteps := 1000000) [go_sem, hbig0, hneg0, hng13, hp11, one0, one_o6, one_rH4_0, one_rH8_0, sysV, d0a, d0b, d0c, erH4_0a, erH4_0b, erH4_0c, eo6a, eo6b, eo6c, erH8_0a, erH8_0b, erH8_0c]
  refine eqSystem_ok hoH8_0.read hoH4_0.read _ ?_
  intro H14 hp14
  replace bx0 := bx0.pre hp14
  replace bxrH4_0 := bxrH4_0.pre hp14
  replace bxo6 := bxo6.pre hp14
  replace bxrH8_0 := bxrH8_0.pre hp14
  replace hoo3 := hoo3.pre hp14
  replace hoH4_0 := hoH4_0.pre hp14
  replace mk13 := mk13.pre hp14
  replace hoH8_0 := hoH8_0.pre hp14
  replace hoo11 := hoo11.pre hp14
  replace qz0 := qz0.trans hp14
  have hlH14 := hp14.length_le
  obtain ⟨d0a, d0b, d0c⟩ := bx0.sys
  obtain ⟨erH4_0a, erH4_0b, erH4_0c⟩ := bxrH4_0.sys
  obtain ⟨eo6a, eo6b, eo6c⟩ := bxo6.sys
  obtain ⟨erH8_0a, erH8_0b, erH8_0c⟩ := bxrH8_0.sys
  try simp (maxSteps := 1000000) [go_sem, hbig0, hneg0, hng13, hp11, one0, one_o6, one_rH4_0, one_rH8_0, sysV, d0a, d0b, d0c, erH4_0a, erH4_0b, erH4_0c, eo6a, eo6b, eo6c, erH8_0a, erH8_0b, erH8_0c]
  refine markSys_ok hoH8_0 (by omega) (by omega) _ ?_
  intro H15 hs15 mk15
  replace bx0 := bx0.keepS hs15 (by rintro ⟨h1, h2⟩; omega)
  replace bxrH4_0 := bxrH4_0.keepS hs15 (by rintro ⟨h1, h2⟩; omega)
  replace bxo6 := bxo6.keepS hs15 (by rintro ⟨h1, h2⟩; omega)
  replace bxrH8_0 := bxrH8_0.keepS hs15 (by rintro ⟨h1, h2⟩; omega)
  replace hoo3 := hoo3.keep hs15 (by rintro j ⟨h1, h2⟩ ⟨h3, h4⟩; omega)
  replace hoH4_0 := hoH4_0.keep hs15 (by rintro j ⟨h1, h2⟩ ⟨h3, h4⟩; omega)
  replace mk13 := mk13.keep hs15 (by rintro j ⟨h1, h2⟩ ⟨h3, h4⟩; omega)
  replace hoo11 := hoo11.keep hs15 (by rintro j ⟨h1, h2⟩ ⟨h3, h4⟩; omega)
  replace qz0 := ((Same.of_prefix qz0).trans hs15).prefix (by rintro j hj ⟨h1, h2⟩; omega)
  have hlH15 := hs15.1
  obtain ⟨d0a, d0b, d0c⟩ := bx0.sys
  obtain ⟨erH4_0a, erH4_0b, erH4_0c⟩ := bxrH4_0.sys
  obtain ⟨eo6a, eo6b, eo6c⟩ := bxo6.sys
  obtain ⟨erH8_0a, erH8_0b, erH8_0c⟩ := bxrH8_0.sys
  have hng15 : decide ((1 : Int) + (((rTake p0 b0 n1).1.2).length * 3 : Nat) < 0) = false := by simp only [decide_eq_false_iff_not]; omega
  try simp only [Int.natCast_mul, Int.cast_ofNat_Int] at hng15
  try simp (maxSteps := 1000000) [go_sem, hbig0, hneg0, hng13, hng15, hp11, one0, one_o6, one_rH4_0, one_rH8_0, sysV, d0a, d0b, d0c, erH4_0a, erH4_0b, erH4_0c, eo6a, eo6b, eo6c, erH8_0a, erH8_0b, erH8_0c]
  refine heldSys_ok mk15 (by omega) (by omega) _ ?_
  intro H16 hp16
  replace bx0 := bx0.pre hp16
  replace bxrH4_0 := bxrH4_0.pre hp16
  replace bxo6 := bxo6.pre hp16
  replace bxrH8_0 := bxrH8_0.pre hp16
  replace hoo3 := hoo3.pre hp16
  replace hoH4_0 := hoH4_0.pre hp16
  replace mk13 := mk13.pre hp16
  replace mk15 := mk15.pre hp16
  replace hoo11 := hoo11.pre hp16
  replace qz0 := qz0.trans hp16
  have hlH16 := hp16.length_le
  obtain ⟨d0a, d0b, d0c⟩ := bx0.sys
  obtain ⟨erH4_0a, erH4_0b, erH4_0c⟩ := bxrH4_0.sys
  obtain ⟨eo6a, eo6b, eo6c⟩ := bxo6.sys
  obtain ⟨erH8_0a, erH8_0b, erH8_0c⟩ := bxrH8_0.sys
  try simp (maxSteps := 1000000) [go_sem, hbig0, hneg0, hng13, hng15, hp11, one0, one_o6, one_rH4_0, one_rH8_0, sysV, d0a, d0b, d0c, erH4_0a, erH4_0b, erH4_0c, eo6a, eo6b, eo6c, erH8_0a, erH8_0b, erH8_0c]
  refine toSys_ok (hq0.pre qz0) hl0 _ ?_
  intro H17 wo17 hp17 hoo17
  replace bx0 := bx0.pre hp17
  replace bxrH4_0 := bxrH4_0.pre hp17
  replace bxo6 := bxo6.pre hp17
  replace bxrH8_0 := bxrH8_0.pre hp17
  replace hoo3 := hoo3.pre hp17
  replace hoH4_0 := hoH4_0.pre hp17
  replace mk13 := mk13.pre hp17
  replace mk15 := mk15.pre hp17
  replace hoo11 := hoo11.pre hp17
  replace qz0 := qz0.trans hp17
  have hlH17 := hp17.length_le
  obtain ⟨d0a, d0b, d0c⟩ := bx0.sys
  obtain ⟨erH4_0a, erH4_0b, erH4_0c⟩ := bxrH4_0.sys
  obtain ⟨eo6a, eo6b, eo6c⟩ := bxo6.sys
  obtain ⟨erH8_0a, erH8_0b, erH8_0c⟩ := bxrH8_0.sys
  try simp (maxSteps := 1000000) [go_sem, hbig0, hneg0, hng13, hng15, hp11, one0, one_o6, one_rH4_0, one_rH8_0, sysV, d0a, d0b, d0c, erH4_0a, erH4_0b, erH4_0c, eo6a, eo6b, eo6c, erH8_0a, erH8_0b, erH8_0c]
  refine implTakeBlock_ok hoo17.read hl0 hn1 _ ?_
  intro H18 wH18_0 hp18 hoH18_0
  replace bx0 := bx0.pre hp18
  replace bxrH4_0 := bxrH4_0.pre hp18
  replace bxo6 := bxo6.pre hp18
  replace bxrH8_0 := bxrH8_0.pre hp18
  replace hoo3 := hoo3.pre hp18
  replace hoH4_0 := hoH4_0.pre hp18
  replace mk13 := mk13.pre hp18
  replace mk15 := mk15.pre hp18
  replace hoo11 := hoo11.pre hp18
  replace hoo17 := hoo17.pre hp18
  replace qz0 := qz0.trans hp18
  have hlH18 := hp18.length_le
  obtain ⟨d0a, d0b, d0c⟩ := bx0.sys
  obtain ⟨erH4_0a, erH4_0b, erH4_0c⟩ := bxrH4_0.sys
  obtain ⟨eo6a, eo6b, eo6c⟩ := bxo6.sys
  obtain ⟨erH8_0a, erH8_0b, erH8_0c⟩ := bxrH8_0.sys
  have one_rH18_0 : wH18_0.oneCell' = true := hoH18_0.read.one
  try simp (maxSteps := 1000000) [go_sem, hbig0, hneg0, hng13, hng15, hp11, one0, one_o6, one_rH18_0, one_rH4_0, one_rH8_0, sysV, d0a, d0b, d0c, erH4_0a, erH4_0b, erH4_0c, eo6a, eo6b, eo6c, erH8_0a, erH8_0b, erH8_0c]
  have bxrH18_0 := Holds.last H18 [.int .i64 (rTake p0 b0 n1).1.1, wH18_0]
  have hp19 : H18 <+: H18 ++ [(⟨[.int .i64 (rTake p0 b0 n1).1.1, wH18_0], true, true⟩ : Blk)] := List.prefix_append _ _
  have hbH19 : (H18 ++ [(⟨[.int .i64 (rTake p0 b0 n1).1.1, wH18_0], true, true⟩ : Blk)]).length = H18.length + 1 := by simp
  generalize H18 ++ [(⟨[.int .i64 (rTake p0 b0 n1).1.1, wH18_0], true, true⟩ : Blk)] = H19 at bxrH18_0 hp19 hbH19 ⊢
  replace bx0 := bx0.pre hp19
  replace bxrH4_0 := bxrH4_0.pre hp19
  replace bxo6 := bxo6.pre hp19
  replace bxrH8_0 := bxrH8_0.pre hp19
  replace hoo3 := hoo3.pre hp19
  replace hoH4_0 := hoH4_0.pre hp19
  replace mk13 := mk13.pre hp19
  replace mk15 := mk15.pre hp19
  replace hoo11 := hoo11.pre hp19
  replace hoo17 := hoo17.pre hp19
  replace hoH18_0 := hoH18_0.pre hp19
  replace qz0 := qz0.trans hp19
  have hlH19 := hp19.length_le
  obtain ⟨d0a, d0b, d0c⟩ := bx0.sys
  obtain ⟨erH4_0a, erH4_0b, erH4_0c⟩ := bxrH4_0.sys
  obtain ⟨eo6a, eo6b, eo6c⟩ := bxo6.sys
  obtain ⟨erH8_0a, erH8_0b, erH8_0c⟩ := bxrH8_0.sys
  obtain ⟨erH18_0a, erH18_0b, erH18_0c⟩ := bxrH18_0.sys
  try simp (maxSteps := 1000000) [go_sem, hbig0, hneg0, hng13, hng15, hp11, one0, one_o6, one_rH18_0, one_rH4_0, one_rH8_0, sysV, d0a, d0b, d0c, erH4_0a, erH4_0b, erH4_0c, eo6a, eo6b, eo6c, erH8_0a, erH8_0b, erH8_0c, erH18_0a, erH18_0b, erH18_0c]
  refine eqSystem_ok hoH18_0.read hoH4_0.read _ ?_
  intro H20 hp20
  replace bx0 := bx0.pre hp20
  replace bxrH4_0 := bxrH4_0.pre hp20
  replace bxo6 := bxo6.pre hp20
  replace bxrH8_0 := bxrH8_0.pre hp20
  replace bxrH18_0 := bxrH18_0.pre hp20
  replace hoo3 := hoo3.pre hp20
  replace hoH4_0 := hoH4_0.pre hp20
  replace mk13 := mk13.pre hp20
  replace mk15 := mk15.pre hp20
  replace hoo11 := hoo11.pre hp20
  replace hoo17 := hoo17.pre hp20
  replace hoH18_0 := hoH18_0.pre hp20
  replace qz0 := qz0.trans hp20
  have hlH20 := hp20.length_le
  obtain ⟨d0a, d0b, d0c⟩ := bx0.sys
  obtain ⟨erH4_0a, erH4_0b, erH4_0c⟩ := bxrH4_0.sys
  obtain ⟨eo6a, eo6b, eo6c⟩ := bxo6.sys
  obtain ⟨erH8_0a, erH8_0b, erH8_0c⟩ := bxrH8_0.sys
  obtain ⟨erH18_0a, erH18_0b, erH18_0c⟩ := bxrH18_0.sys
  try simp (maxSteps := 1000000) [go_sem, hbig0, hneg0, hng13, hng15, hp11, one0, one_o6, one_rH18_0, one_rH4_0, one_rH8_0, sysV, d0a, d0b, d0c, erH4_0a, erH4_0b, erH4_0c, eo6a, eo6b, eo6c, erH8_0a, erH8_0b, erH8_0c, erH18_0a, erH18_0b, erH18_0c]
  refine heldSys_ok mk15 (by omega) (by omega) _ ?_
  intro H21 hp21
  replace bx0 := bx0.pre hp21
  replace bxrH4_0 := bxrH4_0.pre hp21
  replace bxo6 := bxo6.pre hp21
  replace bxrH8_0 := bxrH8_0.pre hp21
  replace bxrH18_0 := bxrH18_0.pre hp21
  replace hoo3 := hoo3.pre hp21
  replace hoH4_0 := hoH4_0.pre hp21
  replace mk13 := mk13.pre hp21
  replace mk15 := mk15.pre hp21
  replace hoo11 := hoo11.pre hp21
  replace hoo17 := hoo17.pre hp21
  replace hoH18_0 := hoH18_0.pre hp21
  replace qz0 := qz0.trans hp21
  have hlH21 := hp21.length_le
  obtain ⟨d0a, d0b, d0c⟩ := bx0.sys
  obtain ⟨erH4_0a, erH4_0b, erH4_0c⟩ := bxrH4_0.sys
  obtain ⟨eo6a, eo6b, eo6c⟩ := bxo6.sys
  obtain ⟨erH8_0a, erH8_0b, erH8_0c⟩ := bxrH8_0.sys
  obtain ⟨erH18_0a, erH18_0b, erH18_0c⟩ := bxrH18_0.sys
  try simp (maxSteps := 1000000) [go_sem, hbig0, hneg0, hng13, hng15, hp11, one0, one_o6, one_rH18_0, one_rH4_0, one_rH8_0, sysV, d0a, d0b, d0c, erH4_0a, erH4_0b, erH4_0c, eo6a, eo6b, eo6c, erH8_0a, erH8_0b, erH8_0c, erH18_0a, erH18_0b, erH18_0c]

end Go.Proofs.Ytkgjdmbmdnmilaa
