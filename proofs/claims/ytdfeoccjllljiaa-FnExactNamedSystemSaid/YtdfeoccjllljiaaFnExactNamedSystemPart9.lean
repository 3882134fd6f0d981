/- Part 9 of what the proof of the law FnExactNamedSystem rests on: contracts of functions of the program, for every argument that each names; no statement of the seat is proved here. -/
import Derived.Test.YtdfeoccjllljiaaFnExactNamedSystemPart8

section
/- The law on NamedSystem, in abstract terms: its code returns true, for every input. -/
set_option linter.all false
set_option maxRecDepth 20000
set_option maxHeartbeats 8000000
namespace Go.Proofs.Ytdfeoccjllljiaa
open Go.Ab

theorem lawFnExactNamedSystem (H : Heap) (avs : List Value) (h : argsSay [shStr] H avs) : ACalls Try.prog 10 avs H fun v _ => v = .bool true := by
  obtain ⟨_, _, rfl, a0, rfl⟩ := h
  obtain ⟨v0, rfl, hz0⟩ := says_shStr a0
  refine acalls_vc (rs := [.tmp 2]) Try.func10 rfl rfl Try.ntmps10 rfl rfl ?_
  by_cases hbig0 : (1048576 : Int) < v0.size
  · simp (maxSteps := 1000000) [go_sem, hbig0, sysV]
  try simp (maxSteps := 1000000) [go_sem, hbig0, sysV]
  refine specNamed_ok  _ ?_
  intro H1 wH1_0 hp1 hoH1_0
  have hlH1 := hp1.length_le
  have one_rH1_0 : wH1_0.oneCell' = true := hoH1_0.read.one
  try simp (maxSteps := 1000000) [go_sem, hbig0, one_rH1_0, sysV]
  have bxrH1_0 := Holds.last H1 [.int .i64 (rNamed v0.toList).1.1, wH1_0]
  have hp2 : H1 <+: H1 ++ [(⟨[.int .i64 (rNamed v0.toList).1.1, wH1_0], true, true⟩ : Blk)] := List.prefix_append _ _
  have hbH2 : (H1 ++ [(⟨[.int .i64 (rNamed v0.toList).1.1, wH1_0], true, true⟩ : Blk)]).length = H1.length + 1 := by simp
  generalize H1 ++ [(⟨[.int .i64 (rNamed v0.toList).1.1, wH1_0], true, true⟩ : Blk)] = H2 at bxrH1_0 hp2 hbH2 ⊢
  replace hoH1_0 := hoH1_0.pre hp2
  have hlH2 := hp2.length_le
  obtain ⟨erH1_0a, erH1_0b, erH1_0c⟩ := bxrH1_0.sys
  try simp (maxSteps := 1000000) [go_sem, hbig0, one_rH1_0, sysV, erH1_0a, erH1_0b, erH1_0c]
  refine implNamed_ok  _ ?_
  intro H3 wH3_0 hp3 hoH3_0
  replace bxrH1_0 := bxrH1_0.pre hp3
  replace hoH1_0 := hoH1_0.pre hp3
  have hlH3 := hp3.length_le
  obtain ⟨erH1_0a, erH1_0b, erH1_0c⟩ := bxrH1_0.sys
  have one_rH3_0 : wH3_0.oneCell' = true := hoH3_0.read.one
  try simp (maxSteps := 1000000) [go_sem, hbig0, one_rH1_0, one_rH3_0, sysV, erH1_0a, erH1_0b, erH1_0c]
  have bxrH3_0 := Holds.last H3 [.int .i64 (rNamed v0.toList).1.1, wH3_0]
  have hp4 : H3 <+: H3 ++ [(⟨[.int .i64 (rNamed v0.toList).1.1, wH3_0], true, true⟩ : Blk)] := List.prefix_append _ _
  have hbH4 : (H3 ++ [(⟨[.int .i64 (rNamed v0.toList).1.1, wH3_0], true, true⟩ : Blk)]).length = H3.length + 1 := by simp
  generalize H3 ++ [(⟨[.int .i64 (rNamed v0.toList).1.1, wH3_0], true, true⟩ : Blk)] = H4 at bxrH3_0 hp4 hbH4 ⊢
  replace bxrH1_0 := bxrH1_0.pre hp4
  replace hoH1_0 := hoH1_0.pre hp4
  replace hoH3_0 := hoH3_0.pre hp4
  have hlH4 := hp4.length_le
  obtain ⟨erH1_0a, erH1_0b, erH1_0c⟩ := bxrH1_0.sys
  obtain ⟨erH3_0a, erH3_0b, erH3_0c⟩ := bxrH3_0.sys
  try simp (maxSteps := 1000000) [go_sem, hbig0, one_rH1_0, one_rH3_0, sysV, erH1_0a, erH1_0b, erH1_0c, erH3_0a, erH3_0b, erH3_0c]
  refine eqSystem_ok hoH3_0.read hoH1_0.read _ ?_
  intro H5 hp5
  replace bxrH1_0 := bxrH1_0.pre hp5
  replace bxrH3_0 := bxrH3_0.pre hp5
  replace hoH1_0 := hoH1_0.pre hp5
  replace hoH3_0 := hoH3_0.pre hp5
  have hlH5 := hp5.length_le
  obtain ⟨erH1_0a, erH1_0b, erH1_0c⟩ := bxrH1_0.sys
  obtain ⟨erH3_0a, erH3_0b, erH3_0c⟩ := bxrH3_0.sys
  try simp (maxSteps := 1000000) [go_sem, hbig0, one_rH1_0, one_rH3_0, sysV, erH1_0a, erH1_0b, erH1_0c, erH3_0a, erH3_0b, erH3_0c]
  refine markSys_ok hoH3_0 (by omega) (by omega) _ ?_
  intro H6 hs6 mk6
  replace bxrH1_0 := bxrH1_0.keepS hs6 (by rintro ⟨h1, h2⟩; omega)
  replace bxrH3_0 := bxrH3_0.keepS hs6 (by rintro ⟨h1, h2⟩; omega)
  replace hoH1_0 := hoH1_0.keep hs6 (by rintro j ⟨h1, h2⟩ ⟨h3, h4⟩; omega)
  have hlH6 := hs6.1
  obtain ⟨erH1_0a, erH1_0b, erH1_0c⟩ := bxrH1_0.sys
  obtain ⟨erH3_0a, erH3_0b, erH3_0c⟩ := bxrH3_0.sys
  have hng6 : decide ((1 : Int) + (((rNamed v0.toList).1.2).length * 3 : Nat) < 0) = false := by simp only [decide_eq_false_iff_not]; omega
  try simp only [Int.natCast_mul, Int.cast_ofNat_Int] at hng6
  try simp (maxSteps := 1000000) [go_sem, hbig0, hng6, one_rH1_0, one_rH3_0, sysV, erH1_0a, erH1_0b, erH1_0c, erH3_0a, erH3_0b, erH3_0c]
  refine heldSys_ok mk6 (by omega) (by omega) _ ?_
  intro H7 hp7
  replace bxrH1_0 := bxrH1_0.pre hp7
  replace bxrH3_0 := bxrH3_0.pre hp7
  replace hoH1_0 := hoH1_0.pre hp7
  replace mk6 := mk6.pre hp7
  have hlH7 := hp7.length_le
  obtain ⟨erH1_0a, erH1_0b, erH1_0c⟩ := bxrH1_0.sys
  obtain ⟨erH3_0a, erH3_0b, erH3_0c⟩ := bxrH3_0.sys
  try simp (maxSteps := 1000000) [go_sem, hbig0, hng6, one_rH1_0, one_rH3_0, sysV, erH1_0a, erH1_0b, erH1_0c, erH3_0a, erH3_0b, erH3_0c]
  refine implNamed_ok  _ ?_
  intro H8 wH8_0 hp8 hoH8_0
  replace bxrH1_0 := bxrH1_0.pre hp8
  replace bxrH3_0 := bxrH3_0.pre hp8
  replace hoH1_0 := hoH1_0.pre hp8
  replace mk6 := mk6.pre hp8
  have hlH8 := hp8.length_le
  obtain ⟨erH1_0a, erH1_0b, erH1_0c⟩ := bxrH1_0.sys
  obtain ⟨erH3_0a, erH3_0b, erH3_0c⟩ := bxrH3_0.sys
  have one_rH8_0 : wH8_0.oneCell' = true := hoH8_0.read.one
  try simp (maxSteps := 1000000) [go_sem, hbig0, hng6, one_rH1_0, one_rH3_0, one_rH8_0, sysV, erH1_0a, erH1_0b, erH1_0c, erH3_0a, erH3_0b, erH3_0c]
  have bxrH8_0 := Holds.last H8 [.int .i64 (rNamed v0.toList).1.1, wH8_0]
  have hp9 : H8 <+: H8 ++ [(⟨[.int .i64 (rNamed v0.toList).1.1, wH8_0], true, true⟩ : Blk)] := List.prefix_append _ _
  have hbH9 : (H8 ++ [(⟨[.int .i64 (rNamed v0.toList).1.1, wH8_0], true, true⟩ : Blk)]).length = H8.length + 1 := by simp
  generalize H8 ++ [(⟨[.int .i64 (rNamed v0.toList).1.1, wH8_0], true, true⟩ : Blk)] = H9 at bxrH8_0 hp9 hbH9 ⊢
  replace bxrH1_0 := bxrH1_0.pre hp9
  replace bxrH3_0 := bxrH3_0.pre hp9
  replace hoH1_0 := hoH1_0.pre hp9
  replace mk6 := mk6.pre hp9
  replace hoH8_0 := hoH8_0.pre hp9
  have hlH9 := hp9.length_le
  obtain ⟨erH1_0a, erH1_0b, erH1_0c⟩ := bxrH1_0.sys
  obtain ⟨erH3_0a, erH3_0b, erH3_0c⟩ := bxrH3_0.sys
  obtain ⟨erH8_0a, erH8_0b, erH8_0c⟩ := bxrH8_0.sys
  try simp (maxSteps := 1000000) [go_sem, hbig0, hng6, one_rH1_0, one_rH3_0, one_rH8_0, sysV, erH1_0a, erH1_0b, erH1_0c, erH3_0a, erH3_0b, erH3_0c, erH8_0a, erH8_0b, erH8_0c]
  refine eqSystem_ok hoH8_0.read hoH1_0.read _ ?_
  intro H10 hp10
  replace bxrH1_0 := bxrH1_0.pre hp10
  replace bxrH3_0 := bxrH3_0.pre hp10
  replace bxrH8_0 := bxrH8_0.pre hp10
  replace hoH1_0 := hoH1_0.pre hp10
  replace mk6 := mk6.pre hp10
  replace hoH8_0 := hoH8_0.pre hp10
  have hlH10 := hp10.length_le
  obtain ⟨erH1_0a, erH1_0b, erH1_0c⟩ := bxrH1_0.sys
  obtain ⟨erH3_0a, erH3_0b, erH3_0c⟩ := bxrH3_0.sys
  obtain ⟨erH8_0a, erH8_0b, erH8_0c⟩ := bxrH8_0.sys
  try simp (maxSteps := 1000000) [go_sem, hbig0, hng6, one_rH1_0, one_rH3_0, one_rH8_0, sysV, erH1_0a, erH1_0b, erH1_0c, erH3_0a, erH3_0b, erH3_0c, erH8_0a, erH8_0b, erH8_0c]
  refine heldSys_ok mk6 (by omega) (by omega) _ ?_
  intro H11 hp11
  replace bxrH1_0 := bxrH1_0.pre hp11
  replace bxrH3_0 := bxrH3_0.pre hp11
  replace bxrH8_0 := bxrH8_0.pre hp11
  replace hoH1_0 := hoH1_0.pre hp11
  replace mk6 := mk6.pre hp11
  replace hoH8_0 := hoH8_0.pre hp11
  have hlH11 := hp11.length_le
  obtain ⟨erH1_0a, erH1_0b, erH1_0c⟩ := bxrH1_0.sys
  obtain ⟨erH3_0a, erH3_0b, erH3_0c⟩ := bxrH3_0.sys
  obtain ⟨erH8_0a, erH8_0b, erH8_0c⟩ := bxrH8_0.sys
  try simp (maxSteps := 1000000) [go_sem, hbig0, hng6, one_rH1_0, one_rH3_0, one_rH8_0, sysV, erH1_0a, erH1_0b, erH1_0c, erH3_0a, erH3_0b, erH3_0c, erH8_0a, erH8_0b, erH8_0c]

end Go.Proofs.Ytdfeoccjllljiaa
end
