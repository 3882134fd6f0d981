/- The law on PairsLeft, in abstract terms: its code returns true, for every input. -/
import Derived.Test.YtkgjdmbmdnmilaaLeft2
set_option linter.all false
set_option maxRecDepth 20000
namespace Go.Proofs.Ytkgjdmbmdnmilaa
open Go.Ab

theorem lawFnExactPairsLeft (H : Heap) (avs : List Value) (h : argsSay [shSystem] H avs) : ACalls Try.prog 17 avs H fun v _ => v = .bool true := by
  obtain ⟨_, _, rfl, a0, rfl⟩ := h
  obtain ⟨p0, u0, b0, rfl, hp00, hz0, hw0⟩ := says_shSystem a0
  have one0 : u0.oneCell' = true := by obtain ⟨i, o, rfl, _⟩ := hz0; rfl
  refine acalls_vc (rs := [.tmp 2]) Try.func17 rfl rfl Try.ntmps17 rfl rfl ?_
  try simp (maxSteps := 1000000) [go_sem, one0, sysV]
  have hp1 : H <+: H ++ [(⟨[.int .i64 p0, u0], true, true⟩ : Blk)] := List.prefix_append _ _
  have bx0 : Holds (H ++ [(⟨[.int .i64 p0, u0], true, true⟩ : Blk)]) (H.length) [.int .i64 p0, u0] := ⟨true, by simp⟩
  have hbH1 : (H ++ [(⟨[.int .i64 p0, u0], true, true⟩ : Blk)]).length = H.length + 1 := by simp
  generalize H ++ [(⟨[.int .i64 p0, u0], true, true⟩ : Blk)] = H1 at hp1 hbH1 bx0 ⊢
  have hlH1 := hp1.length_le
  have qz0 := hp1
  obtain ⟨d0a, d0b, d0c⟩ := bx0.sys
  refine szSystem0_ok (hz0.pre qz0) (by omega) (by omega) _ ?_
  intro H2 hp2
  replace bx0 := bx0.pre hp2
  replace qz0 := qz0.trans hp2
  have hlH2 := hp2.length_le
  obtain ⟨d0a, d0b, d0c⟩ := bx0.sys
  by_cases hbig0 : (1048576 : Int) < b0.length
  · simp (maxSteps := 1000000) [go_sem, hbig0, one0, sysV]
  have hneg0 : decide ((1048576 : Int) - b0.length < 0) = false := by simp; omega
  have hl0 : b0.length ≤ 1048576 := by omega
  have hq0 := hz0.at (by omega)
  try simp (maxSteps := 1000000) [go_sem, hbig0, hneg0, one0, sysV, d0a, d0b, d0c]
  refine toSys_ok (hq0.pre qz0) hl0 _ ?_
  intro H3 wo3 hp3 hoo3
  replace bx0 := bx0.pre hp3
  replace qz0 := qz0.trans hp3
  have hlH3 := hp3.length_le
  obtain ⟨d0a, d0b, d0c⟩ := bx0.sys
  try simp (maxSteps := 1000000) [go_sem, hbig0, hneg0, one0, sysV, d0a, d0b, d0c]
  refine specPairsLeft_ok hoo3.read hl0 _ ?_
  intro H4 wH4_0 hp4 hoH4_0
  replace bx0 := bx0.pre hp4
  replace hoo3 := hoo3.pre hp4
  replace qz0 := qz0.trans hp4
  have hlH4 := hp4.length_le
  obtain ⟨d0a, d0b, d0c⟩ := bx0.sys
  try simp (maxSteps := 1000000) [go_sem, hbig0, hneg0, one0, sysV, d0a, d0b, d0c]
  refine toSys_ok (hq0.pre qz0) hl0 _ ?_
  intro H5 wo5 hp5 hoo5
  replace bx0 := bx0.pre hp5
  replace hoo3 := hoo3.pre hp5
  replace hoH4_0 := hoH4_0.pre hp5
  replace qz0 := qz0.trans hp5
  have hlH5 := hp5.length_le
  obtain ⟨d0a, d0b, d0c⟩ := bx0.sys
  have one_o5 : wo5.oneCell' = true := hoo5.read.one
  try simp (maxSteps := 1000000) [go_sem, hbig0, hneg0, one0, one_o5, sysV, d0a, d0b, d0c]
  have bxo5 := Holds.last H5 [.int .i64 p0, wo5]
  have hp6 : H5 <+: H5 ++ [(⟨[.int .i64 p0, wo5], true, true⟩ : Blk)] := List.prefix_append _ _
  have hbH6 : (H5 ++ [(⟨[.int .i64 p0, wo5], true, true⟩ : Blk)]).length = H5.length + 1 := by simp
  generalize H5 ++ [(⟨[.int .i64 p0, wo5], true, true⟩ : Blk)] = H6 at bxo5 hp6 hbH6 ⊢
  replace bx0 := bx0.pre hp6
  replace hoo3 := hoo3.pre hp6
  replace hoH4_0 := hoH4_0.pre hp6
  replace hoo5 := hoo5.pre hp6
  replace qz0 := qz0.trans hp6
  have hlH6 := hp6.length_le
  obtain ⟨d0a, d0b, d0c⟩ := bx0.sys
  obtain ⟨eo5a, eo5b, eo5c⟩ := bxo5.sys
  try simp (maxSteps := 1000000) [go_sem, hbig0, hneg0, one0, one_o5, sysV, d0a, d0b, d0c, eo5a, eo5b, eo5c]
  refine implPairsLeft_ok hoo5.read hl0 _ ?_
  intro H7 wH7_0 hp7 hoH7_0
  replace bx0 := bx0.pre hp7
  replace bxo5 := bxo5.pre hp7
  replace hoo3 := hoo3.pre hp7
  replace hoH4_0 := hoH4_0.pre hp7
  replace hoo5 := hoo5.pre hp7
  replace qz0 := qz0.trans hp7
  have hlH7 := hp7.length_le
  obtain ⟨d0a, d0b, d0c⟩ := bx0.sys
  obtain ⟨eo5a, eo5b, eo5c⟩ := bxo5.sys
  try simp (maxSteps := 1000000) [go_sem, hbig0, hneg0, one0, one_o5, sysV, d0a, d0b, d0c, eo5a, eo5b, eo5c]
  refine eqInt64SS_ok hoH7_0.read hoH4_0.read _ ?_
  try simp (maxSteps := 1000000) [go_sem, hbig0, hneg0, one0, one_o5, sysV, d0a, d0b, d0c, eo5a, eo5b, eo5c]
  refine AWp.draw mixed [(0, false), (1, false), (2, true), (3, false), (4, false)] (by kernel_rfl) ?_
  try simp (maxSteps := 1000000) [go_sem, hbig0, hneg0, one0, one_o5, sysV, d0a, d0b, d0c, eo5a, eo5b, eo5c]
  refine toSys_ok (hq0.pre qz0) hl0 _ ?_
  intro H8 wo8 hp8 hoo8
  replace bx0 := bx0.pre hp8
  replace bxo5 := bxo5.pre hp8
  replace hoo3 := hoo3.pre hp8
  replace hoH4_0 := hoH4_0.pre hp8
  replace hoo5 := hoo5.pre hp8
  replace hoH7_0 := hoH7_0.pre hp8
  replace qz0 := qz0.trans hp8
  have hlH8 := hp8.length_le
  obtain ⟨d0a, d0b, d0c⟩ := bx0.sys
  obtain ⟨eo5a, eo5b, eo5c⟩ := bxo5.sys
  try simp (maxSteps := 1000000) [go_sem, hbig0, hneg0, hp8, one0, one_o5, sysV, d0a, d0b, d0c, eo5a, eo5b, eo5c]
  refine eqSystem_ok hoo5.read hoo8.read _ ?_
  intro H9 hp9
  replace bx0 := bx0.pre hp9
  replace bxo5 := bxo5.pre hp9
  replace hoo3 := hoo3.pre hp9
  replace hoH4_0 := hoH4_0.pre hp9
  replace hoo5 := hoo5.pre hp9
  replace hoH7_0 := hoH7_0.pre hp9
  replace hoo8 := hoo8.pre hp9
  replace qz0 := qz0.trans hp9
  have hlH9 := hp9.length_le
  obtain ⟨d0a, d0b, d0c⟩ := bx0.sys
  obtain ⟨eo5a, eo5b, eo5c⟩ := bxo5.sys
  try simp (maxSteps := 1000000) [go_sem, hbig0, hneg0, hp8, one0, one_o5, sysV, d0a, d0b, d0c, eo5a, eo5b, eo5c]
  refine markSys_ok hoo5 (by omega) (by omega) _ ?_
  intro H10 hs10 mk10
  replace bx0 := bx0.keepS hs10 (by rintro ⟨h1, h2⟩; omega)
  replace bxo5 := bxo5.keepS hs10 (by rintro ⟨h1, h2⟩; omega)
  replace hoo3 := hoo3.keep hs10 (by rintro j ⟨h1, h2⟩ ⟨h3, h4⟩; omega)
  replace hoH4_0 := hoH4_0.keep hs10 (by rintro j ⟨h1, h2⟩ ⟨h3, h4⟩; omega)
  replace hoH7_0 := hoH7_0.keep hs10 (by rintro j ⟨h1, h2⟩ ⟨h3, h4⟩; omega)
  replace hoo8 := hoo8.keep hs10 (by rintro j ⟨h1, h2⟩ ⟨h3, h4⟩; omega)
  replace qz0 := ((Same.of_prefix qz0).trans hs10).prefix (by rintro j hj ⟨h1, h2⟩; omega)
  have hlH10 := hs10.1
  obtain ⟨d0a, d0b, d0c⟩ := bx0.sys
  obtain ⟨eo5a, eo5b, eo5c⟩ := bxo5.sys
  have hng10 : decide ((1 : Int) + ((b0).length * 3 : Nat) < 0) = false := by simp only [decide_eq_false_iff_not]; omega
  try simp only [Int.natCast_mul, Int.cast_ofNat_Int] at hng10
  try simp (maxSteps := 1000000) [go_sem, hbig0, hneg0, hng10, hp8, one0, one_o5, sysV, d0a, d0b, d0c, eo5a, eo5b, eo5c]
  refine eqInt64SS_ok hoH7_0.read hoH4_0.read _ ?_
  try simp (maxSteps := 1000000) [go_sem, hbig0, hneg0, hng10, hp8, one0, one_o5, sysV, d0a, d0b, d0c, eo5a, eo5b, eo5c]
  obtain ⟨TrH7_0, hTrH7_0⟩ : ∃ T : Nat, T = ((rLeft p0 b0).1).flatten.length := ⟨_, rfl⟩
  refine markIntss_ok hoH7_0 hTrH7_0 (by omega) (by omega) _ ?_
  intro H11 hs11 mk11
  replace bx0 := bx0.keepS hs11 (by rintro ⟨h1, h2⟩; omega)
  replace bxo5 := bxo5.keepS hs11 (by rintro ⟨h1, h2⟩; omega)
  replace hoo3 := hoo3.keep hs11 (by rintro j ⟨h1, h2⟩ ⟨h3, h4⟩; omega)
  replace hoH4_0 := hoH4_0.keep hs11 (by rintro j ⟨h1, h2⟩ ⟨h3, h4⟩; omega)
  replace mk10 := mk10.keep hs11 (by rintro j ⟨h1, h2⟩ ⟨h3, h4⟩; omega)
  replace hoo8 := hoo8.keep hs11 (by rintro j ⟨h1, h2⟩ ⟨h3, h4⟩; omega)
  replace qz0 := ((Same.of_prefix qz0).trans hs11).prefix (by rintro j hj ⟨h1, h2⟩; omega)
  have hlH11 := hs11.1
  obtain ⟨d0a, d0b, d0c⟩ := bx0.sys
  obtain ⟨eo5a, eo5b, eo5c⟩ := bxo5.sys
  have hng11 : decide ((1 : Int) + (TrH7_0 : Int) < 0) = false := by simp only [decide_eq_false_iff_not]; omega
  try simp only [Int.natCast_mul, Int.cast_ofNat_Int] at hng11
  try simp (maxSteps := 1000000) [go_sem, hbig0, hneg0, hng10, hng11, hp8, one0, one_o5, sysV, d0a, d0b, d0c, eo5a, eo5b, eo5c]
  refine heldIntss_ok mk11 hTrH7_0 (by omega) (by omega) _ ?_
  try simp (maxSteps := 1000000) [go_sem, hbig0, hneg0, hng10, hng11, hp8, one0, one_o5, sysV, d0a, d0b, d0c, eo5a, eo5b, eo5c]
  refine toSys_ok (hq0.pre qz0) hl0 _ ?_
  intro H12 wo12 hp12 hoo12
  replace bx0 := bx0.pre hp12
  replace bxo5 := bxo5.pre hp12
  replace hoo3 := hoo3.pre hp12
  replace hoH4_0 := hoH4_0.pre hp12
  replace mk10 := mk10.pre hp12
  replace mk11 := mk11.pre hp12
  replace hoo8 := hoo8.pre hp12
  replace qz0 := qz0.trans hp12
  have hlH12 := hp12.length_le
  obtain ⟨d0a, d0b, d0c⟩ := bx0.sys
  obtain ⟨eo5a, eo5b, eo5c⟩ := bxo5.sys
  try simp (maxSteps := 1000000) [go_sem, hbig0, hneg0, hng10, hng11, hp8, one0, one_o5, sysV, d0a, d0b, d0c, eo5a, eo5b, eo5c]
  refine implPairsLeft_ok hoo12.read hl0 _ ?_
  intro H13 wH13_0 hp13 hoH13_0
  replace bx0 := bx0.pre hp13
  replace bxo5 := bxo5.pre hp13
  replace hoo3 := hoo3.pre hp13
  replace hoH4_0 := hoH4_0.pre hp13
  replace mk10 := mk10.pre hp13
  replace mk11 := mk11.pre hp13
  replace hoo8 := hoo8.pre hp13
  replace hoo12 := hoo12.pre hp13
  replace qz0 := qz0.trans hp13
  have hlH13 := hp13.length_le
  obtain ⟨d0a, d0b, d0c⟩ := bx0.sys
  obtain ⟨eo5a, eo5b, eo5c⟩ := bxo5.sys
  try simp (maxSteps := 1000000) [go_sem, hbig0, hneg0, hng10, hng11, hp8, one0, one_o5, sysV, d0a, d0b, d0c, eo5a, eo5b, eo5c]
  refine eqInt64SS_ok hoH13_0.read hoH4_0.read _ ?_
  try simp (maxSteps := 1000000) [go_sem, hbig0, hneg0, hng10, hng11, hp8, one0, one_o5, sysV, d0a, d0b, d0c, eo5a, eo5b, eo5c]
  refine heldIntss_ok mk11 hTrH7_0 (by omega) (by omega) _ ?_
  try simp (maxSteps := 1000000) [go_sem, hbig0, hneg0, hng10, hng11, hp8, one0, one_o5, sysV, d0a, d0b, d0c, eo5a, eo5b, eo5c]

end Go.Proofs.Ytkgjdmbmdnmilaa
