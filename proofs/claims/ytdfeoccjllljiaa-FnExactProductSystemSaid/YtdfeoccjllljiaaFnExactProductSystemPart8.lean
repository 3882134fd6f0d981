/- Part 8 of what the proof of the law FnExactProductSystem rests on: contracts of functions of the program, for every argument that each names; no statement of the seat is proved here. -/
import Derived.Test.YtdfeoccjllljiaaFnExactProductSystemPart7

section
/- The law on ProductSystem, in abstract terms: its code returns true, for every input. -/
set_option linter.all false
set_option maxRecDepth 20000
set_option maxHeartbeats 8000000
namespace Go.Proofs.Ytdfeoccjllljiaa
open Go.Ab

theorem lawFnExactProductSystem (H : Heap) (avs : List Value) (h : argsSay [shSystem, shSystem] H avs) : ACalls Try.prog 4 avs H fun v _ => v = .bool true := by
  obtain ⟨_, _, rfl, a0, _, _, rfl, a1, rfl⟩ := h
  obtain ⟨p0, u0, b0, rfl, hp00, hz0, hw0⟩ := says_shSystem a0
  have one0 : u0.oneCell' = true := by obtain ⟨i, o, rfl, _⟩ := hz0; rfl
  obtain ⟨p1, u1, b1, rfl, hp01, hz1, hw1⟩ := says_shSystem a1
  have one1 : u1.oneCell' = true := by obtain ⟨i, o, rfl, _⟩ := hz1; rfl
  refine acalls_vc (rs := [.tmp 4]) Try.func4 rfl rfl Try.ntmps4 rfl rfl ?_
  try simp (maxSteps := 1000000) [go_sem, one0, one1, sysV]
  have hp1 : H <+: H ++ [(⟨[.int .i64 p0, u0], true, true⟩ : Blk), (⟨[.int .i64 p1, u1], true, true⟩ : Blk)] := List.prefix_append _ _
  have bx0 : Holds (H ++ [(⟨[.int .i64 p0, u0], true, true⟩ : Blk), (⟨[.int .i64 p1, u1], true, true⟩ : Blk)]) (H.length) [.int .i64 p0, u0] := ⟨true, by simp⟩
  have bx1 : Holds (H ++ [(⟨[.int .i64 p0, u0], true, true⟩ : Blk), (⟨[.int .i64 p1, u1], true, true⟩ : Blk)]) (H.length + 1) [.int .i64 p1, u1] := ⟨true, by simp⟩
  have hbH1 : (H ++ [(⟨[.int .i64 p0, u0], true, true⟩ : Blk), (⟨[.int .i64 p1, u1], true, true⟩ : Blk)]).length = H.length + 2 := by simp
  generalize H ++ [(⟨[.int .i64 p0, u0], true, true⟩ : Blk), (⟨[.int .i64 p1, u1], true, true⟩ : Blk)] = H1 at hp1 hbH1 bx0 bx1 ⊢
  have hlH1 := hp1.length_le
  have qz0 := hp1
  have qz1 := hp1
  obtain ⟨d0a, d0b, d0c⟩ := bx0.sys
  obtain ⟨d1a, d1b, d1c⟩ := bx1.sys
  refine szSystem0_ok (hz0.pre qz0) (by omega) (by omega) _ ?_
  intro H2 hp2
  replace bx0 := bx0.pre hp2
  replace bx1 := bx1.pre hp2
  replace qz0 := qz0.trans hp2
  replace qz1 := qz1.trans hp2
  have hlH2 := hp2.length_le
  obtain ⟨d0a, d0b, d0c⟩ := bx0.sys
  obtain ⟨d1a, d1b, d1c⟩ := bx1.sys
  by_cases hbig0 : (1048576 : Int) < b0.length
  · simp (maxSteps := 1000000) [go_sem, hbig0, one0, one1, sysV]
  have hneg0 : decide ((1048576 : Int) - b0.length < 0) = false := by simp; omega
  have hl0 : b0.length ≤ 1048576 := by omega
  have hq0 := hz0.at (by omega)
  try simp (maxSteps := 1000000) [go_sem, hbig0, hneg0, one0, one1, sysV, d0a, d0b, d0c, d1a, d1b, d1c]
  refine szSystem0_ok (hz1.pre qz1) (by omega) (by omega) _ ?_
  intro H3 hp3
  replace bx0 := bx0.pre hp3
  replace bx1 := bx1.pre hp3
  replace qz1 := qz1.trans hp3
  replace qz0 := qz0.trans hp3
  have hlH3 := hp3.length_le
  obtain ⟨d0a, d0b, d0c⟩ := bx0.sys
  obtain ⟨d1a, d1b, d1c⟩ := bx1.sys
  by_cases hbig1 : (1048576 - b0.length : Int) < b1.length
  · simp (maxSteps := 1000000) [go_sem, hbig1, hbig0, hneg0, one0, one1, sysV]
  have hneg1 : decide ((1048576 - b0.length : Int) - b1.length < 0) = false := by simp; omega
  have hl1 : b1.length ≤ 1048576 := by omega
  have hq1 := hz1.at (by omega)
  try simp (maxSteps := 1000000) [go_sem, hbig0, hbig1, hneg0, hneg1, one0, one1, sysV, d0a, d0b, d0c, d1a, d1b, d1c]
  refine AWp.regCut (St := Nat × Nat × Nat × Value) (fun s => [(6, .pointer (some ⟨s.1, 0, none⟩)), (7, .int .i64 ((rProd p0 b0 p1 b1).2))])
    (fun s H' => H3 <+: H' ∧ H3.length ≤ s.1 ∧ s.1 < H'.length ∧ Holds H' s.1 [.int .i64 (rProd p0 b0 p1 b1).1.1, s.2.2.2] ∧ H3.length ≤ s.2.1 ∧ s.2.2.1 ≤ H'.length ∧ (s.1 < s.2.1 ∨ s.2.2.1 ≤ s.1) ∧ BlocksIn s.2.1 s.2.2.1 H' s.2.2.2 ((rProd p0 b0 p1 b1).1.2)) ?_ ?_
  · intro Q' hQ'
    have hq3 : H3 <+: H3 := List.prefix_refl _
    refine AWp.drawF mixed [8] [(0, false), (2, false), (1, true), (3, false), (4, false), (5, false), (6, false), (7, false), (8, true), (9, false), (10, false)] (.one 0 false (.one 2 false (.two 1 true (.two 3 false (.two 4 false (.one 5 false (.one 6 false (.one 7 false (.one 8 true (.one 9 false (.one 10 false .nil)))))) 8 (.one 4 false (.one 5 false (.one 6 false (.one 7 false (.one 9 false (.one 10 false .nil))))))) 8 (.one 3 false (.one 4 false (.one 5 false (.one 6 false (.one 7 false (.one 9 false (.one 10 false .nil)))))))) 8 (.one 1 true (.one 3 false (.one 4 false (.one 5 false (.one 6 false (.one 7 false (.one 9 false (.one 10 false .nil))))))))))) (by kernel_rfl) ?_
    try simp (maxSteps := 1000000) [go_sem, hbig0, hbig1, hneg0, hneg1, one0, one1, sysV, d0a, d0b, d0c, d1a, d1b, d1c]
    refine vT_two ?_ ?_
    · skip
      try simp (maxSteps := 1000000) [go_sem, hbig0, hbig1, hneg0, hneg1, one0, one1, sysV, d0a, d0b, d0c, d1a, d1b, d1c]
      refine toSys_ok (hq0.pre qz0) hl0 _ ?_
      intro H4 wo4 hp4 hoo4
      replace bx0 := bx0.pre hp4
      replace bx1 := bx1.pre hp4
      replace qz0 := qz0.trans hp4
      replace qz1 := qz1.trans hp4
      replace hq3 := hq3.trans hp4
      have hlH4 := hp4.length_le
      obtain ⟨d0a, d0b, d0c⟩ := bx0.sys
      obtain ⟨d1a, d1b, d1c⟩ := bx1.sys
      try simp (maxSteps := 1000000) [go_sem, hbig0, hbig1, hneg0, hneg1, hp4, one0, one1, sysV, d0a, d0b, d0c, d1a, d1b, d1c]
      refine vT_two ?_ ?_
      · skip
        try simp (maxSteps := 1000000) [go_sem, hbig0, hbig1, hneg0, hneg1, hp4, one0, one1, sysV, d0a, d0b, d0c, d1a, d1b, d1c]
        refine toSys_ok (hq1.pre qz1) hl1 _ ?_
        intro H5 wo5 hp5 hoo5
        replace bx0 := bx0.pre hp5
        replace bx1 := bx1.pre hp5
        replace hoo4 := hoo4.pre hp5
        replace qz0 := qz0.trans hp5
        replace qz1 := qz1.trans hp5
        replace hq3 := hq3.trans hp5
        have hlH5 := hp5.length_le
        obtain ⟨d0a, d0b, d0c⟩ := bx0.sys
        obtain ⟨d1a, d1b, d1c⟩ := bx1.sys
        try simp (maxSteps := 1000000) [go_sem, hbig0, hbig1, hneg0, hneg1, hp4, one0, one1, sysV, d0a, d0b, d0c, d1a, d1b, d1c]
        refine vT_two ?_ ?_
        · skip
          try simp (maxSteps := 1000000) [go_sem, hbig0, hbig1, hneg0, hneg1, hp4, one0, one1, sysV, d0a, d0b, d0c, d1a, d1b, d1c]
          refine specProd_ok hoo4.read hl0 hoo5.read hl1 _ ?_
          intro H6 wrH6 hp6 horH6
          replace bx0 := bx0.pre hp6
          replace bx1 := bx1.pre hp6
          replace hoo4 := hoo4.pre hp6
          replace hoo5 := hoo5.pre hp6
          replace qz0 := qz0.trans hp6
          replace qz1 := qz1.trans hp6
          replace hq3 := hq3.trans hp6
          have hlH6 := hp6.length_le
          obtain ⟨d0a, d0b, d0c⟩ := bx0.sys
          obtain ⟨d1a, d1b, d1c⟩ := bx1.sys
          have one_rH6 : wrH6.oneCell' = true := horH6.read.one
          try simp (maxSteps := 1000000) [go_sem, hbig0, hbig1, hneg0, hneg1, hp4, one0, one1, one_rH6, sysV, d0a, d0b, d0c, d1a, d1b, d1c]
          refine hQ' ⟨H6.length, H5.length, H6.length, wrH6⟩ _ _ (by simp [upF, Fr.get, Up.refl]) ?_
          exact ⟨hq3.trans (List.prefix_append _ _), by simp only; omega, by simp, Holds.last H6 [.int .i64 (rProd p0 b0 p1 b1).1.1, wrH6], by simp only; omega, by simp only [List.length_append, List.length_cons, List.length_nil]; omega, by simp only; omega, horH6.pre (List.prefix_append _ _)⟩
        · skip
          try simp (maxSteps := 1000000) [go_sem, hbig0, hbig1, hneg0, hneg1, hp4, one0, one1, sysV, d0a, d0b, d0c, d1a, d1b, d1c]
          have hp7 : H5 <+: H5 ++ [(⟨[.int .i64 0, .slice none 0 0], true, true⟩ : Blk)] := List.prefix_append _ _
          have hzH7 : (H5 ++ [(⟨[.int .i64 0, .slice none 0 0], true, true⟩ : Blk)])[H5.length]? = some ⟨[.int .i64 0, .slice none 0 0], true, true⟩ := by simp
          have hbH7 : (H5 ++ [(⟨[.int .i64 0, .slice none 0 0], true, true⟩ : Blk)]).length = H5.length + 1 := by simp
          generalize H5 ++ [(⟨[.int .i64 0, .slice none 0 0], true, true⟩ : Blk)] = H7 at hp7 hzH7 hbH7 ⊢
          have hqH7 : H7 <+: H7 := List.prefix_refl _
          replace bx0 := bx0.pre hp7
          replace bx1 := bx1.pre hp7
          replace hoo4 := hoo4.pre hp7
          replace hoo5 := hoo5.pre hp7
          replace qz0 := qz0.trans hp7
          replace qz1 := qz1.trans hp7
          replace hq3 := hq3.trans hp7
          have hlH7 := hp7.length_le
          obtain ⟨d0a, d0b, d0c⟩ := bx0.sys
          obtain ⟨d1a, d1b, d1c⟩ := bx1.sys
          try simp (maxSteps := 1000000) [go_sem, hbig0, hbig1, hneg0, hneg1, hp4, one0, one1, sysV, d0a, d0b, d0c, d1a, d1b, d1c]
          refine specProd_ok hoo4.read hl0 hoo5.read hl1 _ ?_
          intro H8 wrH8 hp8 horH8
          replace bx0 := bx0.pre hp8
          replace bx1 := bx1.pre hp8
          replace hoo4 := hoo4.pre hp8
          replace hoo5 := hoo5.pre hp8
          replace qz0 := qz0.trans hp8
          replace qz1 := qz1.trans hp8
          replace hq3 := hq3.trans hp8
          replace hqH7 := hqH7.trans hp8
          have hlH8 := hp8.length_le
          obtain ⟨d0a, d0b, d0c⟩ := bx0.sys
          obtain ⟨d1a, d1b, d1c⟩ := bx1.sys
          have one_rH8 : wrH8.oneCell' = true := horH8.read.one
          obtain ⟨st3, bh3, bs3, bl3⟩ := boxLate hzH7 hqH7 (cs := [.int .i64 (rProd p0 b0 p1 b1).1.1, wrH8]) rfl (by simp [one_int, one_rH8])
          have hid3 : H3.length ≤ H5.length := by omega
          have hpe3 := ((Same.of_prefix hq3).trans bs3).prefix (by intro j hj e; omega)
          have hke3 := horH8.keep bs3 (by rintro j ⟨h1, h2⟩ e; omega)
          generalize H8.set H5.length ⟨[.int .i64 (rProd p0 b0 p1 b1).1.1, wrH8], true, true⟩ = H9 at *
          try simp (maxSteps := 1000000) [go_sem, hbig0, hbig1, hneg0, hneg1, hp4, one0, one1, one_rH8, st3, sysV, d0a, d0b, d0c, d1a, d1b, d1c]
          refine hQ' ⟨H5.length, H7.length, H8.length, wrH8⟩ _ _ (by simp [upF, Fr.get, Up.refl]) ?_
          exact ⟨hpe3, by simp only; omega, by simp only; omega, bh3, by simp only; omega, by simp only; omega, by simp only; omega, hke3⟩
      · skip
        try simp (maxSteps := 1000000) [go_sem, hbig0, hbig1, hneg0, hneg1, hp4, one0, one1, sysV, d0a, d0b, d0c, d1a, d1b, d1c]
        have hp10 : H4 <+: H4 ++ [(⟨[.int .i64 0, .slice none 0 0], true, true⟩ : Blk)] := List.prefix_append _ _
        have hzH10 : (H4 ++ [(⟨[.int .i64 0, .slice none 0 0], true, true⟩ : Blk)])[H4.length]? = some ⟨[.int .i64 0, .slice none 0 0], true, true⟩ := by simp
        have hbH10 : (H4 ++ [(⟨[.int .i64 0, .slice none 0 0], true, true⟩ : Blk)]).length = H4.length + 1 := by simp
        generalize H4 ++ [(⟨[.int .i64 0, .slice none 0 0], true, true⟩ : Blk)] = H10 at hp10 hzH10 hbH10 ⊢
        have hqH10 : H10 <+: H10 := List.prefix_refl _
        replace bx0 := bx0.pre hp10
        replace bx1 := bx1.pre hp10
        replace hoo4 := hoo4.pre hp10
        replace qz0 := qz0.trans hp10
        replace qz1 := qz1.trans hp10
        replace hq3 := hq3.trans hp10
        have hlH10 := hp10.length_le
        obtain ⟨d0a, d0b, d0c⟩ := bx0.sys
        obtain ⟨d1a, d1b, d1c⟩ := bx1.sys
        try simp (maxSteps := 1000000) [go_sem, hbig0, hbig1, hneg0, hneg1, hp4, one0, one1, sysV, d0a, d0b, d0c, d1a, d1b, d1c]
        refine toSys_ok (hq1.pre qz1) hl1 _ ?_
        intro H11 wo11 hp11 hoo11
        replace bx0 := bx0.pre hp11
        replace bx1 := bx1.pre hp11
        replace hoo4 := hoo4.pre hp11
        replace qz0 := qz0.trans hp11
        replace qz1 := qz1.trans hp11
        replace hq3 := hq3.trans hp11
        replace hqH10 := hqH10.trans hp11
        have hlH11 := hp11.length_le
        obtain ⟨d0a, d0b, d0c⟩ := bx0.sys
        obtain ⟨d1a, d1b, d1c⟩ := bx1.sys
        try simp (maxSteps := 1000000) [go_sem, hbig0, hbig1, hneg0, hneg1, hp4, one0, one1, sysV, d0a, d0b, d0c, d1a, d1b, d1c]
        refine specProd_ok hoo4.read hl0 hoo11.read hl1 _ ?_
        intro H12 wrH12 hp12 horH12
        replace bx0 := bx0.pre hp12
        replace bx1 := bx1.pre hp12
        replace hoo4 := hoo4.pre hp12
        replace hoo11 := hoo11.pre hp12
        replace qz0 := qz0.trans hp12
        replace qz1 := qz1.trans hp12
        replace hq3 := hq3.trans hp12
        replace hqH10 := hqH10.trans hp12
        have hlH12 := hp12.length_le
        obtain ⟨d0a, d0b, d0c⟩ := bx0.sys
        obtain ⟨d1a, d1b, d1c⟩ := bx1.sys
        have one_rH12 : wrH12.oneCell' = true := horH12.read.one
        obtain ⟨st3, bh3, bs3, bl3⟩ := boxLate hzH10 hqH10 (cs := [.int .i64 (rProd p0 b0 p1 b1).1.1, wrH12]) rfl (by simp [one_int, one_rH12])
        have hid3 : H3.length ≤ H4.length := by omega
        have hpe3 := ((Same.of_prefix hq3).trans bs3).prefix (by intro j hj e; omega)
        have hke3 := horH12.keep bs3 (by rintro j ⟨h1, h2⟩ e; omega)
        generalize H12.set H4.length ⟨[.int .i64 (rProd p0 b0 p1 b1).1.1, wrH12], true, true⟩ = H13 at *
        try simp (maxSteps := 1000000) [go_sem, hbig0, hbig1, hneg0, hneg1, hp4, one0, one1, one_rH12, st3, sysV, d0a, d0b, d0c, d1a, d1b, d1c]
        refine hQ' ⟨H4.length, H11.length, H12.length, wrH12⟩ _ _ (by simp [upF, Fr.get, Up.refl]) ?_
        exact ⟨hpe3, by simp only; omega, by simp only; omega, bh3, by simp only; omega, by simp only; omega, by simp only; omega, hke3⟩
    · skip
      try simp (maxSteps := 1000000) [go_sem, hbig0, hbig1, hneg0, hneg1, one0, one1, sysV, d0a, d0b, d0c, d1a, d1b, d1c]
      have hp14 : H3 <+: H3 ++ [(⟨[.int .i64 0, .slice none 0 0], true, true⟩ : Blk)] := List.prefix_append _ _
      have hzH14 : (H3 ++ [(⟨[.int .i64 0, .slice none 0 0], true, true⟩ : Blk)])[H3.length]? = some ⟨[.int .i64 0, .slice none 0 0], true, true⟩ := by simp
      have hbH14 : (H3 ++ [(⟨[.int .i64 0, .slice none 0 0], true, true⟩ : Blk)]).length = H3.length + 1 := by simp
      generalize H3 ++ [(⟨[.int .i64 0, .slice none 0 0], true, true⟩ : Blk)] = H14 at hp14 hzH14 hbH14 ⊢
      have hqH14 : H14 <+: H14 := List.prefix_refl _
      replace bx0 := bx0.pre hp14
      replace bx1 := bx1.pre hp14
      replace qz0 := qz0.trans hp14
      replace qz1 := qz1.trans hp14
      replace hq3 := hq3.trans hp14
      have hlH14 := hp14.length_le
      obtain ⟨d0a, d0b, d0c⟩ := bx0.sys
      obtain ⟨d1a, d1b, d1c⟩ := bx1.sys
      try simp (maxSteps := 1000000) [go_sem, hbig0, hbig1, hneg0, hneg1, one0, one1, sysV, d0a, d0b, d0c, d1a, d1b, d1c]
      refine toSys_ok (hq0.pre qz0) hl0 _ ?_
      intro H15 wo15 hp15 hoo15
      replace bx0 := bx0.pre hp15
      replace bx1 := bx1.pre hp15
      replace qz0 := qz0.trans hp15
      replace qz1 := qz1.trans hp15
      replace hq3 := hq3.trans hp15
      replace hqH14 := hqH14.trans hp15
      have hlH15 := hp15.length_le
      obtain ⟨d0a, d0b, d0c⟩ := bx0.sys
      obtain ⟨d1a, d1b, d1c⟩ := bx1.sys
      try simp (maxSteps := 1000000) [go_sem, hbig0, hbig1, hneg0, hneg1, hp15, one0, one1, sysV, d0a, d0b, d0c, d1a, d1b, d1c]
      refine toSys_ok (hq1.pre qz1) hl1 _ ?_
      intro H16 wo16 hp16 hoo16
      replace bx0 := bx0.pre hp16
      replace bx1 := bx1.pre hp16
      replace hoo15 := hoo15.pre hp16
      replace qz0 := qz0.trans hp16
      replace qz1 := qz1.trans hp16
      replace hq3 := hq3.trans hp16
      replace hqH14 := hqH14.trans hp16
      have hlH16 := hp16.length_le
      obtain ⟨d0a, d0b, d0c⟩ := bx0.sys
      obtain ⟨d1a, d1b, d1c⟩ := bx1.sys
      try simp (maxSteps := 1000000) [go_sem, hbig0, hbig1, hneg0, hneg1, hp15, one0, one1, sysV, d0a, d0b, d0c, d1a, d1b, d1c]
      refine specProd_ok hoo15.read hl0 hoo16.read hl1 _ ?_
      intro H17 wrH17 hp17 horH17
      replace bx0 := bx0.pre hp17
      replace bx1 := bx1.pre hp17
      replace hoo15 := hoo15.pre hp17
      replace hoo16 := hoo16.pre hp17
      replace qz0 := qz0.trans hp17
      replace qz1 := qz1.trans hp17
      replace hq3 := hq3.trans hp17
      replace hqH14 := hqH14.trans hp17
      have hlH17 := hp17.length_le
      obtain ⟨d0a, d0b, d0c⟩ := bx0.sys
      obtain ⟨d1a, d1b, d1c⟩ := bx1.sys
      have one_rH17 : wrH17.oneCell' = true := horH17.read.one
      obtain ⟨st3, bh3, bs3, bl3⟩ := boxLate hzH14 hqH14 (cs := [.int .i64 (rProd p0 b0 p1 b1).1.1, wrH17]) rfl (by simp [one_int, one_rH17])
      have hid3 : H3.length ≤ H3.length := by omega
      have hpe3 := ((Same.of_prefix hq3).trans bs3).prefix (by intro j hj e; omega)
      have hke3 := horH17.keep bs3 (by rintro j ⟨h1, h2⟩ e; omega)
      generalize H17.set H3.length ⟨[.int .i64 (rProd p0 b0 p1 b1).1.1, wrH17], true, true⟩ = H18 at *
      try simp (maxSteps := 1000000) [go_sem, hbig0, hbig1, hneg0, hneg1, hp15, one0, one1, one_rH17, st3, sysV, d0a, d0b, d0c, d1a, d1b, d1c]
      refine hQ' ⟨H3.length, H16.length, H17.length, wrH17⟩ _ _ (by simp [upF, Fr.get, Up.refl]) ?_
      exact ⟨hpe3, by simp only; omega, by simp only; omega, bh3, by simp only; omega, by simp only; omega, by simp only; omega, hke3⟩
  rintro ⟨idg3_18, log3_18, hig3_18, wg3_18⟩ H19 ⟨hp19, h1g3_18, h2g3_18, bxg3_18, h3g3_18, h4g3_18, h5g3_18, hog3_18⟩
  simp only at h1g3_18 h2g3_18 bxg3_18 h3g3_18 h4g3_18 h5g3_18 hog3_18
  replace bx0 := bx0.pre hp19
  replace bx1 := bx1.pre hp19
  replace qz0 := qz0.trans hp19
  replace qz1 := qz1.trans hp19
  have hlH19 := hp19.length_le
  obtain ⟨d0a, d0b, d0c⟩ := bx0.sys
  obtain ⟨d1a, d1b, d1c⟩ := bx1.sys
  have one_g3_18 : wg3_18.oneCell' = true := hog3_18.read.one
  obtain ⟨eg3_18a, eg3_18b, eg3_18c⟩ := bxg3_18.sys
  try simp (maxSteps := 1000000) [go_sem, hbig0, hbig1, hneg0, hneg1, one0, one1, one_g3_18, sysV, d0a, d0b, d0c, d1a, d1b, d1c, eg3_18a, eg3_18b, eg3_18c]
  refine toSys_ok (hq0.pre qz0) hl0 _ ?_
  intro H20 wo20 hp20 hoo20
  replace bx0 := bx0.pre hp20
  replace bx1 := bx1.pre hp20
  replace bxg3_18 := bxg3_18.pre hp20
  replace hog3_18 := hog3_18.pre hp20
  replace qz0 := qz0.trans hp20
  replace qz1 := qz1.trans hp20
  have hlH20 := hp20.length_le
  obtain ⟨d0a, d0b, d0c⟩ := bx0.sys
  obtain ⟨d1a, d1b, d1c⟩ := bx1.sys
  obtain ⟨eg3_18a, eg3_18b, eg3_18c⟩ := bxg3_18.sys
  have one_o20 : wo20.oneCell' = true := hoo20.read.one
  try simp (maxSteps := 1000000) [go_sem, hbig0, hbig1, hneg0, hneg1, one0, one1, one_g3_18, one_o20, sysV, d0a, d0b, d0c, d1a, d1b, d1c, eg3_18a, eg3_18b, eg3_18c]
  have bxo20 := Holds.last H20 [.int .i64 p0, wo20]
  have hp21 : H20 <+: H20 ++ [(⟨[.int .i64 p0, wo20], true, true⟩ : Blk)] := List.prefix_append _ _
  have hbH21 : (H20 ++ [(⟨[.int .i64 p0, wo20], true, true⟩ : Blk)]).length = H20.length + 1 := by simp
  generalize H20 ++ [(⟨[.int .i64 p0, wo20], true, true⟩ : Blk)] = H21 at bxo20 hp21 hbH21 ⊢
  replace bx0 := bx0.pre hp21
  replace bx1 := bx1.pre hp21
  replace bxg3_18 := bxg3_18.pre hp21
  replace hog3_18 := hog3_18.pre hp21
  replace hoo20 := hoo20.pre hp21
  replace qz0 := qz0.trans hp21
  replace qz1 := qz1.trans hp21
  have hlH21 := hp21.length_le
  obtain ⟨d0a, d0b, d0c⟩ := bx0.sys
  obtain ⟨d1a, d1b, d1c⟩ := bx1.sys
  obtain ⟨eg3_18a, eg3_18b, eg3_18c⟩ := bxg3_18.sys
  obtain ⟨eo20a, eo20b, eo20c⟩ := bxo20.sys
  try simp (maxSteps := 1000000) [go_sem, hbig0, hbig1, hneg0, hneg1, one0, one1, one_g3_18, one_o20, sysV, d0a, d0b, d0c, d1a, d1b, d1c, eg3_18a, eg3_18b, eg3_18c, eo20a, eo20b, eo20c]
  refine toSys_ok (hq1.pre qz1) hl1 _ ?_
  intro H22 wo22 hp22 hoo22
  replace bx0 := bx0.pre hp22
  replace bx1 := bx1.pre hp22
  replace bxg3_18 := bxg3_18.pre hp22
  replace bxo20 := bxo20.pre hp22
  replace hog3_18 := hog3_18.pre hp22
  replace hoo20 := hoo20.pre hp22
  replace qz0 := qz0.trans hp22
  replace qz1 := qz1.trans hp22
  have hlH22 := hp22.length_le
  obtain ⟨d0a, d0b, d0c⟩ := bx0.sys
  obtain ⟨d1a, d1b, d1c⟩ := bx1.sys
  obtain ⟨eg3_18a, eg3_18b, eg3_18c⟩ := bxg3_18.sys
  obtain ⟨eo20a, eo20b, eo20c⟩ := bxo20.sys
  have one_o22 : wo22.oneCell' = true := hoo22.read.one
  try simp (maxSteps := 1000000) [go_sem, hbig0, hbig1, hneg0, hneg1, one0, one1, one_g3_18, one_o20, one_o22, sysV, d0a, d0b, d0c, d1a, d1b, d1c, eg3_18a, eg3_18b, eg3_18c, eo20a, eo20b, eo20c]
  have bxo22 := Holds.last H22 [.int .i64 p1, wo22]
  have hp23 : H22 <+: H22 ++ [(⟨[.int .i64 p1, wo22], true, true⟩ : Blk)] := List.prefix_append _ _
  have hbH23 : (H22 ++ [(⟨[.int .i64 p1, wo22], true, true⟩ : Blk)]).length = H22.length + 1 := by simp
  generalize H22 ++ [(⟨[.int .i64 p1, wo22], true, true⟩ : Blk)] = H23 at bxo22 hp23 hbH23 ⊢
  replace bx0 := bx0.pre hp23
  replace bx1 := bx1.pre hp23
  replace bxg3_18 := bxg3_18.pre hp23
  replace bxo20 := bxo20.pre hp23
  replace hog3_18 := hog3_18.pre hp23
  replace hoo20 := hoo20.pre hp23
  replace hoo22 := hoo22.pre hp23
  replace qz0 := qz0.trans hp23
  replace qz1 := qz1.trans hp23
  have hlH23 := hp23.length_le
  obtain ⟨d0a, d0b, d0c⟩ := bx0.sys
  obtain ⟨d1a, d1b, d1c⟩ := bx1.sys
  obtain ⟨eg3_18a, eg3_18b, eg3_18c⟩ := bxg3_18.sys
  obtain ⟨eo20a, eo20b, eo20c⟩ := bxo20.sys
  obtain ⟨eo22a, eo22b, eo22c⟩ := bxo22.sys
  try simp (maxSteps := 1000000) [go_sem, hbig0, hbig1, hneg0, hneg1, one0, one1, one_g3_18, one_o20, one_o22, sysV, d0a, d0b, d0c, d1a, d1b, d1c, eg3_18a, eg3_18b, eg3_18c, eo20a, eo20b, eo20c, eo22a, eo22b, eo22c]
  refine implProd_ok hoo20.read hl0 hoo22.read hl1 _ ?_
  intro H24 wH24_0 hp24 hoH24_0
  replace bx0 := bx0.pre hp24
  replace bx1 := bx1.pre hp24
  replace bxg3_18 := bxg3_18.pre hp24
  replace bxo20 := bxo20.pre hp24
  replace bxo22 := bxo22.pre hp24
  replace hog3_18 := hog3_18.pre hp24
  replace hoo20 := hoo20.pre hp24
  replace hoo22 := hoo22.pre hp24
  replace qz0 := qz0.trans hp24
  replace qz1 := qz1.trans hp24
  have hlH24 := hp24.length_le
  obtain ⟨d0a, d0b, d0c⟩ := bx0.sys
  obtain ⟨d1a, d1b, d1c⟩ := bx1.sys
  obtain ⟨eg3_18a, eg3_18b, eg3_18c⟩ := bxg3_18.sys
  obtain ⟨eo20a, eo20b, eo20c⟩ := bxo20.sys
  obtain ⟨eo22a, eo22b, eo22c⟩ := bxo22.sys
  have one_rH24_0 : wH24_0.oneCell' = true := hoH24_0.read.one
  try simp (maxSteps := 1000000) [go_sem, hbig0, hbig1, hneg0, hneg1, one0, one1, one_g3_18, one_o20, one_o22, one_rH24_0, sysV, d0a, d0b, d0c, d1a, d1b, d1c, eg3_18a, eg3_18b, eg3_18c, eo20a, eo20b, eo20c, eo22a, eo22b, eo22c]
  have bxrH24_0 := Holds.last H24 [.int .i64 (rProd p0 b0 p1 b1).1.1, wH24_0]
  have hp25 : H24 <+: H24 ++ [(⟨[.int .i64 (rProd p0 b0 p1 b1).1.1, wH24_0], true, true⟩ : Blk)] := List.prefix_append _ _
  have hbH25 : (H24 ++ [(⟨[.int .i64 (rProd p0 b0 p1 b1).1.1, wH24_0], true, true⟩ : Blk)]).length = H24.length + 1 := by simp
  generalize H24 ++ [(⟨[.int .i64 (rProd p0 b0 p1 b1).1.1, wH24_0], true, true⟩ : Blk)] = H25 at bxrH24_0 hp25 hbH25 ⊢
  replace bx0 := bx0.pre hp25
  replace bx1 := bx1.pre hp25
  replace bxg3_18 := bxg3_18.pre hp25
  replace bxo20 := bxo20.pre hp25
  replace bxo22 := bxo22.pre hp25
  replace hog3_18 := hog3_18.pre hp25
  replace hoo20 := hoo20.pre hp25
  replace hoo22 := hoo22.pre hp25
  replace hoH24_0 := hoH24_0.pre hp25
  replace qz0 := qz0.trans hp25
  replace qz1 := qz1.trans hp25
  have hlH25 := hp25.length_le
  obtain ⟨d0a, d0b, d0c⟩ := bx0.sys
  obtain ⟨d1a, d1b, d1c⟩ := bx1.sys
  obtain ⟨eg3_18a, eg3_18b, eg3_18c⟩ := bxg3_18.sys
  obtain ⟨eo20a, eo20b, eo20c⟩ := bxo20.sys
  obtain ⟨eo22a, eo22b, eo22c⟩ := bxo22.sys
  obtain ⟨erH24_0a, erH24_0b, erH24_0c⟩ := bxrH24_0.sys
  try simp (maxSteps := 1000000) [go_sem, hbig0, hbig1, hneg0, hneg1, one0, one1, one_g3_18, one_o20, one_o22, one_rH24_0, sysV, d0a, d0b, d0c, d1a, d1b, d1c, eg3_18a, eg3_18b, eg3_18c, eo20a, eo20b, eo20c, eo22a, eo22b, eo22c, erH24_0a, erH24_0b, erH24_0c]
  refine eqSystem_ok hoH24_0.read hog3_18.read _ ?_
  intro H26 hp26
  replace bx0 := bx0.pre hp26
  replace bx1 := bx1.pre hp26
  replace bxg3_18 := bxg3_18.pre hp26
  replace bxo20 := bxo20.pre hp26
  replace bxo22 := bxo22.pre hp26
  replace bxrH24_0 := bxrH24_0.pre hp26
  replace hog3_18 := hog3_18.pre hp26
  replace hoo20 := hoo20.pre hp26
  replace hoo22 := hoo22.pre hp26
  replace hoH24_0 := hoH24_0.pre hp26
  replace qz0 := qz0.trans hp26
  replace qz1 := qz1.trans hp26
  have hlH26 := hp26.length_le
  obtain ⟨d0a, d0b, d0c⟩ := bx0.sys
  obtain ⟨d1a, d1b, d1c⟩ := bx1.sys
  obtain ⟨eg3_18a, eg3_18b, eg3_18c⟩ := bxg3_18.sys
  obtain ⟨eo20a, eo20b, eo20c⟩ := bxo20.sys
  obtain ⟨eo22a, eo22b, eo22c⟩ := bxo22.sys
  obtain ⟨erH24_0a, erH24_0b, erH24_0c⟩ := bxrH24_0.sys
  try simp (maxSteps := 1000000) [go_sem, hbig0, hbig1, hneg0, hneg1, one0, one1, one_g3_18, one_o20, one_o22, one_rH24_0, sysV, d0a, d0b, d0c, d1a, d1b, d1c, eg3_18a, eg3_18b, eg3_18c, eo20a, eo20b, eo20c, eo22a, eo22b, eo22c, erH24_0a, erH24_0b, erH24_0c]
  refine AWp.draw mixed [(0, false), (1, false), (2, true), (3, false), (4, false)] (by kernel_rfl) ?_
  try simp (maxSteps := 1000000) [go_sem, hbig0, hbig1, hneg0, hneg1, one0, one1, one_g3_18, one_o20, one_o22, one_rH24_0, sysV, d0a, d0b, d0c, d1a, d1b, d1c, eg3_18a, eg3_18b, eg3_18c, eo20a, eo20b, eo20c, eo22a, eo22b, eo22c, erH24_0a, erH24_0b, erH24_0c]
  refine toSys_ok (hq0.pre qz0) hl0 _ ?_
  intro H27 wo27 hp27 hoo27
  replace bx0 := bx0.pre hp27
  replace bx1 := bx1.pre hp27
  replace bxg3_18 := bxg3_18.pre hp27
  replace bxo20 := bxo20.pre hp27
  replace bxo22 := bxo22.pre hp27
  replace bxrH24_0 := bxrH24_0.pre hp27
  replace hog3_18 := hog3_18.pre hp27
  replace hoo20 := hoo20.pre hp27
  replace hoo22 := hoo22.pre hp27
  replace hoH24_0 := hoH24_0.pre hp27
  replace qz0 := qz0.trans hp27
  replace qz1 := qz1.trans hp27
  have hlH27 := hp27.length_le
  obtain ⟨d0a, d0b, d0c⟩ := bx0.sys
  obtain ⟨d1a, d1b, d1c⟩ := bx1.sys
  obtain ⟨eg3_18a, eg3_18b, eg3_18c⟩ := bxg3_18.sys
  obtain ⟨eo20a, eo20b, eo20c⟩ := bxo20.sys
  obtain ⟨eo22a, eo22b, eo22c⟩ := bxo22.sys
  obtain ⟨erH24_0a, erH24_0b, erH24_0c⟩ := bxrH24_0.sys
  try simp (maxSteps := 1000000) [go_sem, hbig0, hbig1, hneg0, hneg1, hp27, one0, one1, one_g3_18, one_o20, one_o22, one_rH24_0, sysV, d0a, d0b, d0c, d1a, d1b, d1c, eg3_18a, eg3_18b, eg3_18c, eo20a, eo20b, eo20c, eo22a, eo22b, eo22c, erH24_0a, erH24_0b, erH24_0c]
  refine eqSystem_ok hoo20.read hoo27.read _ ?_
  intro H28 hp28
  replace bx0 := bx0.pre hp28
  replace bx1 := bx1.pre hp28
  replace bxg3_18 := bxg3_18.pre hp28
  replace bxo20 := bxo20.pre hp28
  replace bxo22 := bxo22.pre hp28
  replace bxrH24_0 := bxrH24_0.pre hp28
  replace hog3_18 := hog3_18.pre hp28
  replace hoo20 := hoo20.pre hp28
  replace hoo22 := hoo22.pre hp28
  replace hoH24_0 := hoH24_0.pre hp28
  replace hoo27 := hoo27.pre hp28
  replace qz0 := qz0.trans hp28
  replace qz1 := qz1.trans hp28
  have hlH28 := hp28.length_le
  obtain ⟨d0a, d0b, d0c⟩ := bx0.sys
  obtain ⟨d1a, d1b, d1c⟩ := bx1.sys
  obtain ⟨eg3_18a, eg3_18b, eg3_18c⟩ := bxg3_18.sys
  obtain ⟨eo20a, eo20b, eo20c⟩ := bxo20.sys
  obtain ⟨eo22a, eo22b, eo22c⟩ := bxo22.sys
  obtain ⟨erH24_0a, erH24_0b, erH24_0c⟩ := bxrH24_0.sys
  try simp (maxSteps := 1000000) [go_sem, hbig0, hbig1, hneg0, hneg1, hp27, one0, one1, one_g3_18, one_o20, one_o22, one_rH24_0, sysV, d0a, d0b, d0c, d1a, d1b, d1c, eg3_18a, eg3_18b, eg3_18c, eo20a, eo20b, eo20c, eo22a, eo22b, eo22c, erH24_0a, erH24_0b, erH24_0c]
  refine AWp.draw mixed [(0, false), (1, false), (2, true), (3, false), (4, false)] (by kernel_rfl) ?_
  try simp (maxSteps := 1000000) [go_sem, hbig0, hbig1, hneg0, hneg1, hp27, one0, one1, one_g3_18, one_o20, one_o22, one_rH24_0, sysV, d0a, d0b, d0c, d1a, d1b, d1c, eg3_18a, eg3_18b, eg3_18c, eo20a, eo20b, eo20c, eo22a, eo22b, eo22c, erH24_0a, erH24_0b, erH24_0c]
  refine toSys_ok (hq1.pre qz1) hl1 _ ?_
  intro H29 wo29 hp29 hoo29
  replace bx0 := bx0.pre hp29
  replace bx1 := bx1.pre hp29
  replace bxg3_18 := bxg3_18.pre hp29
  replace bxo20 := bxo20.pre hp29
  replace bxo22 := bxo22.pre hp29
  replace bxrH24_0 := bxrH24_0.pre hp29
  replace hog3_18 := hog3_18.pre hp29
  replace hoo20 := hoo20.pre hp29
  replace hoo22 := hoo22.pre hp29
  replace hoH24_0 := hoH24_0.pre hp29
  replace hoo27 := hoo27.pre hp29
  replace qz0 := qz0.trans hp29
  replace qz1 := qz1.trans hp29
  have hlH29 := hp29.length_le
  obtain ⟨d0a, d0b, d0c⟩ := bx0.sys
  obtain ⟨d1a, d1b, d1c⟩ := bx1.sys
  obtain ⟨eg3_18a, eg3_18b, eg3_18c⟩ := bxg3_18.sys
  obtain ⟨eo20a, eo20b, eo20c⟩ := bxo20.sys
  obtain ⟨eo22a, eo22b, eo22c⟩ := bxo22.sys
  obtain ⟨erH24_0a, erH24_0b, erH24_0c⟩ := bxrH24_0.sys
  try simp (maxSteps := 1000000) [go_sem, hbig0, hbig1, hneg0, hneg1, hp27, hp29, one0, one1, one_g3_18, one_o20, one_o22, one_rH24_0, sysV, d0a, d0b, d0c, d1a, d1b, d1c, eg3_18a, eg3_18b, eg3_18c, eo20a, eo20b, eo20c, eo22a, eo22b, eo22c, erH24_0a, erH24_0b, erH24_0c]
  refine eqSystem_ok hoo22.read hoo29.read _ ?_
  intro H30 hp30
  replace bx0 := bx0.pre hp30
  replace bx1 := bx1.pre hp30
  replace bxg3_18 := bxg3_18.pre hp30
  replace bxo20 := bxo20.pre hp30
  replace bxo22 := bxo22.pre hp30
  replace bxrH24_0 := bxrH24_0.pre hp30
  replace hog3_18 := hog3_18.pre hp30
  replace hoo20 := hoo20.pre hp30
  replace hoo22 := hoo22.pre hp30
  replace hoH24_0 := hoH24_0.pre hp30
  replace hoo27 := hoo27.pre hp30
  replace hoo29 := hoo29.pre hp30
  replace qz0 := qz0.trans hp30
  replace qz1 := qz1.trans hp30
  have hlH30 := hp30.length_le
  obtain ⟨d0a, d0b, d0c⟩ := bx0.sys
  obtain ⟨d1a, d1b, d1c⟩ := bx1.sys
  obtain ⟨eg3_18a, eg3_18b, eg3_18c⟩ := bxg3_18.sys
  obtain ⟨eo20a, eo20b, eo20c⟩ := bxo20.sys
  obtain ⟨eo22a, eo22b, eo22c⟩ := bxo22.sys
  obtain ⟨erH24_0a, erH24_0b, erH24_0c⟩ := bxrH24_0.sys
  try simp (maxSteps := 1000000) [go_sem, hbig0, hbig1, hneg0, hneg1, hp27, hp29, one0, one1, one_g3_18, one_o20, one_o22, one_rH24_0, sysV, d0a, d0b, d0c, d1a, d1b, d1c, eg3_18a, eg3_18b, eg3_18c, eo20a, eo20b, eo20c, eo22a, eo22b, eo22c, erH24_0a, erH24_0b, erH24_0c]
  refine markSys_ok hoo20 (by omega) (by omega) _ ?_
  intro H31 hs31 mk31
  replace bx0 := bx0.keepS hs31 (by rintro ⟨h1, h2⟩; omega)
  replace bx1 := bx1.keepS hs31 (by rintro ⟨h1, h2⟩; omega)
  replace bxg3_18 := bxg3_18.keepS hs31 (by rintro ⟨h1, h2⟩; omega)
  replace bxo20 := bxo20.keepS hs31 (by rintro ⟨h1, h2⟩; omega)
  replace bxo22 := bxo22.keepS hs31 (by rintro ⟨h1, h2⟩; omega)
  replace bxrH24_0 := bxrH24_0.keepS hs31 (by rintro ⟨h1, h2⟩; omega)
  replace hog3_18 := hog3_18.keep hs31 (by rintro j ⟨h1, h2⟩ ⟨h3, h4⟩; omega)
  replace hoo22 := hoo22.keep hs31 (by rintro j ⟨h1, h2⟩ ⟨h3, h4⟩; omega)
  replace hoH24_0 := hoH24_0.keep hs31 (by rintro j ⟨h1, h2⟩ ⟨h3, h4⟩; omega)
  replace hoo27 := hoo27.keep hs31 (by rintro j ⟨h1, h2⟩ ⟨h3, h4⟩; omega)
  replace hoo29 := hoo29.keep hs31 (by rintro j ⟨h1, h2⟩ ⟨h3, h4⟩; omega)
  replace qz0 := ((Same.of_prefix qz0).trans hs31).prefix (by rintro j hj ⟨h1, h2⟩; omega)
  replace qz1 := ((Same.of_prefix qz1).trans hs31).prefix (by rintro j hj ⟨h1, h2⟩; omega)
  have hlH31 := hs31.1
  obtain ⟨d0a, d0b, d0c⟩ := bx0.sys
  obtain ⟨d1a, d1b, d1c⟩ := bx1.sys
  obtain ⟨eg3_18a, eg3_18b, eg3_18c⟩ := bxg3_18.sys
  obtain ⟨eo20a, eo20b, eo20c⟩ := bxo20.sys
  obtain ⟨eo22a, eo22b, eo22c⟩ := bxo22.sys
  obtain ⟨erH24_0a, erH24_0b, erH24_0c⟩ := bxrH24_0.sys
  have hng31 : decide ((1 : Int) + ((b0).length * 3 : Nat) < 0) = false := by simp only [decide_eq_false_iff_not]; omega
  try simp only [Int.natCast_mul, Int.cast_ofNat_Int] at hng31
  try simp (maxSteps := 1000000) [go_sem, hbig0, hbig1, hneg0, hneg1, hng31, hp27, hp29, one0, one1, one_g3_18, one_o20, one_o22, one_rH24_0, sysV, d0a, d0b, d0c, d1a, d1b, d1c, eg3_18a, eg3_18b, eg3_18c, eo20a, eo20b, eo20c, eo22a, eo22b, eo22c, erH24_0a, erH24_0b, erH24_0c]
  refine markSys_ok hoo22 (by omega) (by omega) _ ?_
  intro H32 hs32 mk32
  replace bx0 := bx0.keepS hs32 (by rintro ⟨h1, h2⟩; omega)
  replace bx1 := bx1.keepS hs32 (by rintro ⟨h1, h2⟩; omega)
  replace bxg3_18 := bxg3_18.keepS hs32 (by rintro ⟨h1, h2⟩; omega)
  replace bxo20 := bxo20.keepS hs32 (by rintro ⟨h1, h2⟩; omega)
  replace bxo22 := bxo22.keepS hs32 (by rintro ⟨h1, h2⟩; omega)
  replace bxrH24_0 := bxrH24_0.keepS hs32 (by rintro ⟨h1, h2⟩; omega)
  replace hog3_18 := hog3_18.keep hs32 (by rintro j ⟨h1, h2⟩ ⟨h3, h4⟩; omega)
  replace mk31 := mk31.keep hs32 (by rintro j ⟨h1, h2⟩ ⟨h3, h4⟩; omega)
  replace hoH24_0 := hoH24_0.keep hs32 (by rintro j ⟨h1, h2⟩ ⟨h3, h4⟩; omega)
  replace hoo27 := hoo27.keep hs32 (by rintro j ⟨h1, h2⟩ ⟨h3, h4⟩; omega)
  replace hoo29 := hoo29.keep hs32 (by rintro j ⟨h1, h2⟩ ⟨h3, h4⟩; omega)
  replace qz0 := ((Same.of_prefix qz0).trans hs32).prefix (by rintro j hj ⟨h1, h2⟩; omega)
  replace qz1 := ((Same.of_prefix qz1).trans hs32).prefix (by rintro j hj ⟨h1, h2⟩; omega)
  have hlH32 := hs32.1
  obtain ⟨d0a, d0b, d0c⟩ := bx0.sys
  obtain ⟨d1a, d1b, d1c⟩ := bx1.sys
  obtain ⟨eg3_18a, eg3_18b, eg3_18c⟩ := bxg3_18.sys
  obtain ⟨eo20a, eo20b, eo20c⟩ := bxo20.sys
  obtain ⟨eo22a, eo22b, eo22c⟩ := bxo22.sys
  obtain ⟨erH24_0a, erH24_0b, erH24_0c⟩ := bxrH24_0.sys
  have hng32 : decide ((1 : Int) + ((b0).length * 3 : Nat) + ((b1).length * 3 : Nat) < 0) = false := by simp only [decide_eq_false_iff_not]; omega
  try simp only [Int.natCast_mul, Int.cast_ofNat_Int] at hng32
  try simp (maxSteps := 1000000) [go_sem, hbig0, hbig1, hneg0, hneg1, hng31, hng32, hp27, hp29, one0, one1, one_g3_18, one_o20, one_o22, one_rH24_0, sysV, d0a, d0b, d0c, d1a, d1b, d1c, eg3_18a, eg3_18b, eg3_18c, eo20a, eo20b, eo20c, eo22a, eo22b, eo22c, erH24_0a, erH24_0b, erH24_0c]
  refine eqSystem_ok hoH24_0.read hog3_18.read _ ?_
  intro H33 hp33
  replace bx0 := bx0.pre hp33
  replace bx1 := bx1.pre hp33
  replace bxg3_18 := bxg3_18.pre hp33
  replace bxo20 := bxo20.pre hp33
  replace bxo22 := bxo22.pre hp33
  replace bxrH24_0 := bxrH24_0.pre hp33
  replace hog3_18 := hog3_18.pre hp33
  replace mk31 := mk31.pre hp33
  replace mk32 := mk32.pre hp33
  replace hoH24_0 := hoH24_0.pre hp33
  replace hoo27 := hoo27.pre hp33
  replace hoo29 := hoo29.pre hp33
  replace qz0 := qz0.trans hp33
  replace qz1 := qz1.trans hp33
  have hlH33 := hp33.length_le
  obtain ⟨d0a, d0b, d0c⟩ := bx0.sys
  obtain ⟨d1a, d1b, d1c⟩ := bx1.sys
  obtain ⟨eg3_18a, eg3_18b, eg3_18c⟩ := bxg3_18.sys
  obtain ⟨eo20a, eo20b, eo20c⟩ := bxo20.sys
  obtain ⟨eo22a, eo22b, eo22c⟩ := bxo22.sys
  obtain ⟨erH24_0a, erH24_0b, erH24_0c⟩ := bxrH24_0.sys
  try simp (maxSteps := 1000000) [go_sem, hbig0, hbig1, hneg0, hneg1, hng31, hng32, hp27, hp29, one0, one1, one_g3_18, one_o20, one_o22, one_rH24_0, sysV, d0a, d0b, d0c, d1a, d1b, d1c, eg3_18a, eg3_18b, eg3_18c, eo20a, eo20b, eo20c, eo22a, eo22b, eo22c, erH24_0a, erH24_0b, erH24_0c]
  refine markSys_ok hoH24_0 (by omega) (by omega) _ ?_
  intro H34 hs34 mk34
  replace bx0 := bx0.keepS hs34 (by rintro ⟨h1, h2⟩; omega)
  replace bx1 := bx1.keepS hs34 (by rintro ⟨h1, h2⟩; omega)
  replace bxg3_18 := bxg3_18.keepS hs34 (by rintro ⟨h1, h2⟩; omega)
  replace bxo20 := bxo20.keepS hs34 (by rintro ⟨h1, h2⟩; omega)
  replace bxo22 := bxo22.keepS hs34 (by rintro ⟨h1, h2⟩; omega)
  replace bxrH24_0 := bxrH24_0.keepS hs34 (by rintro ⟨h1, h2⟩; omega)
  replace hog3_18 := hog3_18.keep hs34 (by rintro j ⟨h1, h2⟩ ⟨h3, h4⟩; omega)
  replace mk31 := mk31.keep hs34 (by rintro j ⟨h1, h2⟩ ⟨h3, h4⟩; omega)
  replace mk32 := mk32.keep hs34 (by rintro j ⟨h1, h2⟩ ⟨h3, h4⟩; omega)
  replace hoo27 := hoo27.keep hs34 (by rintro j ⟨h1, h2⟩ ⟨h3, h4⟩; omega)
  replace hoo29 := hoo29.keep hs34 (by rintro j ⟨h1, h2⟩ ⟨h3, h4⟩; omega)
  replace qz0 := ((Same.of_prefix qz0).trans hs34).prefix (by rintro j hj ⟨h1, h2⟩; omega)
  replace qz1 := ((Same.of_prefix qz1).trans hs34).prefix (by rintro j hj ⟨h1, h2⟩; omega)
  have hlH34 := hs34.1
  obtain ⟨d0a, d0b, d0c⟩ := bx0.sys
  obtain ⟨d1a, d1b, d1c⟩ := bx1.sys
  obtain ⟨eg3_18a, eg3_18b, eg3_18c⟩ := bxg3_18.sys
  obtain ⟨eo20a, eo20b, eo20c⟩ := bxo20.sys
  obtain ⟨eo22a, eo22b, eo22c⟩ := bxo22.sys
  obtain ⟨erH24_0a, erH24_0b, erH24_0c⟩ := bxrH24_0.sys
  have hng34 : decide ((1 : Int) + (((rProd p0 b0 p1 b1).1.2).length * 3 : Nat) < 0) = false := by simp only [decide_eq_false_iff_not]; omega
  try simp only [Int.natCast_mul, Int.cast_ofNat_Int] at hng34
  try simp (maxSteps := 1000000) [go_sem, hbig0, hbig1, hneg0, hneg1, hng31, hng32, hng34, hp27, hp29, one0, one1, one_g3_18, one_o20, one_o22, one_rH24_0, sysV, d0a, d0b, d0c, d1a, d1b, d1c, eg3_18a, eg3_18b, eg3_18c, eo20a, eo20b, eo20c, eo22a, eo22b, eo22c, erH24_0a, erH24_0b, erH24_0c]
  refine heldSys_ok mk34 (by omega) (by omega) _ ?_
  intro H35 hp35
  replace bx0 := bx0.pre hp35
  replace bx1 := bx1.pre hp35
  replace bxg3_18 := bxg3_18.pre hp35
  replace bxo20 := bxo20.pre hp35
  replace bxo22 := bxo22.pre hp35
  replace bxrH24_0 := bxrH24_0.pre hp35
  replace hog3_18 := hog3_18.pre hp35
  replace mk31 := mk31.pre hp35
  replace mk32 := mk32.pre hp35
  replace mk34 := mk34.pre hp35
  replace hoo27 := hoo27.pre hp35
  replace hoo29 := hoo29.pre hp35
  replace qz0 := qz0.trans hp35
  replace qz1 := qz1.trans hp35
  have hlH35 := hp35.length_le
  obtain ⟨d0a, d0b, d0c⟩ := bx0.sys
  obtain ⟨d1a, d1b, d1c⟩ := bx1.sys
  obtain ⟨eg3_18a, eg3_18b, eg3_18c⟩ := bxg3_18.sys
  obtain ⟨eo20a, eo20b, eo20c⟩ := bxo20.sys
  obtain ⟨eo22a, eo22b, eo22c⟩ := bxo22.sys
  obtain ⟨erH24_0a, erH24_0b, erH24_0c⟩ := bxrH24_0.sys
  try simp (maxSteps := 1000000) [go_sem, hbig0, hbig1, hneg0, hneg1, hng31, hng32, hng34, hp27, hp29, one0, one1, one_g3_18, one_o20, one_o22, one_rH24_0, sysV, d0a, d0b, d0c, d1a, d1b, d1c, eg3_18a, eg3_18b, eg3_18c, eo20a, eo20b, eo20c, eo22a, eo22b, eo22c, erH24_0a, erH24_0b, erH24_0c]
  refine AWp.regCut (St := Nat × Nat × Nat × Value) (fun s => [(15, .pointer (some ⟨s.1, 0, none⟩)), (16, .int .i64 ((rProd p0 b0 p1 b1).2))])
    (fun s H' => H35 <+: H' ∧ H35.length ≤ s.1 ∧ s.1 < H'.length ∧ Holds H' s.1 [.int .i64 (rProd p0 b0 p1 b1).1.1, s.2.2.2] ∧ H35.length ≤ s.2.1 ∧ s.2.2.1 ≤ H'.length ∧ (s.1 < s.2.1 ∨ s.2.2.1 ≤ s.1) ∧ BlocksIn s.2.1 s.2.2.1 H' s.2.2.2 ((rProd p0 b0 p1 b1).1.2)) ?_ ?_
  · intro Q' hQ'
    have hq35 : H35 <+: H35 := List.prefix_refl _
    refine AWp.drawF mixed [8] [(0, false), (2, false), (1, true), (3, false), (4, false), (5, false), (6, false), (7, false), (8, true), (9, false), (10, false)] (.one 0 false (.one 2 false (.two 1 true (.two 3 false (.two 4 false (.one 5 false (.one 6 false (.one 7 false (.one 8 true (.one 9 false (.one 10 false .nil)))))) 8 (.one 4 false (.one 5 false (.one 6 false (.one 7 false (.one 9 false (.one 10 false .nil))))))) 8 (.one 3 false (.one 4 false (.one 5 false (.one 6 false (.one 7 false (.one 9 false (.one 10 false .nil)))))))) 8 (.one 1 true (.one 3 false (.one 4 false (.one 5 false (.one 6 false (.one 7 false (.one 9 false (.one 10 false .nil))))))))))) (by kernel_rfl) ?_
    try simp (maxSteps := 1000000) [go_sem, hbig0, hbig1, hneg0, hneg1, hng31, hng32, hng34, hp27, hp29, one0, one1, one_g3_18, one_o20, one_o22, one_rH24_0, sysV, d0a, d0b, d0c, d1a, d1b, d1c, eg3_18a, eg3_18b, eg3_18c, eo20a, eo20b, eo20c, eo22a, eo22b, eo22c, erH24_0a, erH24_0b, erH24_0c]
    refine vT_two ?_ ?_
    · skip
      try simp (maxSteps := 1000000) [go_sem, hbig0, hbig1, hneg0, hneg1, hng31, hng32, hng34, hp27, hp29, one0, one1, one_g3_18, one_o20, one_o22, one_rH24_0, sysV, d0a, d0b, d0c, d1a, d1b, d1c, eg3_18a, eg3_18b, eg3_18c, eo20a, eo20b, eo20c, eo22a, eo22b, eo22c, erH24_0a, erH24_0b, erH24_0c]
      refine toSys_ok (hq0.pre qz0) hl0 _ ?_
      intro H36 wo36 hp36 hoo36
      replace bx0 := bx0.pre hp36
      replace bx1 := bx1.pre hp36
      replace bxg3_18 := bxg3_18.pre hp36
      replace bxo20 := bxo20.pre hp36
      replace bxo22 := bxo22.pre hp36
      replace bxrH24_0 := bxrH24_0.pre hp36
      replace hog3_18 := hog3_18.pre hp36
      replace mk31 := mk31.pre hp36
      replace mk32 := mk32.pre hp36
      replace mk34 := mk34.pre hp36
      replace hoo27 := hoo27.pre hp36
      replace hoo29 := hoo29.pre hp36
      replace qz0 := qz0.trans hp36
      replace qz1 := qz1.trans hp36
      replace hq35 := hq35.trans hp36
      have hlH36 := hp36.length_le
      obtain ⟨d0a, d0b, d0c⟩ := bx0.sys
      obtain ⟨d1a, d1b, d1c⟩ := bx1.sys
      obtain ⟨eg3_18a, eg3_18b, eg3_18c⟩ := bxg3_18.sys
      obtain ⟨eo20a, eo20b, eo20c⟩ := bxo20.sys
      obtain ⟨eo22a, eo22b, eo22c⟩ := bxo22.sys
      obtain ⟨erH24_0a, erH24_0b, erH24_0c⟩ := bxrH24_0.sys
      try simp (maxSteps := 1000000) [go_sem, hbig0, hbig1, hneg0, hneg1, hng31, hng32, hng34, hp27, hp29, hp36, one0, one1, one_g3_18, one_o20, one_o22, one_rH24_0, sysV, d0a, d0b, d0c, d1a, d1b, d1c, eg3_18a, eg3_18b, eg3_18c, eo20a, eo20b, eo20c, eo22a, eo22b, eo22c, erH24_0a, erH24_0b, erH24_0c]
      refine vT_two ?_ ?_
      · skip
        try simp (maxSteps := 1000000) [go_sem, hbig0, hbig1, hneg0, hneg1, hng31, hng32, hng34, hp27, hp29, hp36, one0, one1, one_g3_18, one_o20, one_o22, one_rH24_0, sysV, d0a, d0b, d0c, d1a, d1b, d1c, eg3_18a, eg3_18b, eg3_18c, eo20a, eo20b, eo20c, eo22a, eo22b, eo22c, erH24_0a, erH24_0b, erH24_0c]
        refine toSys_ok (hq1.pre qz1) hl1 _ ?_
        intro H37 wo37 hp37 hoo37
        replace bx0 := bx0.pre hp37
        replace bx1 := bx1.pre hp37
        replace bxg3_18 := bxg3_18.pre hp37
        replace bxo20 := bxo20.pre hp37
        replace bxo22 := bxo22.pre hp37
        replace bxrH24_0 := bxrH24_0.pre hp37
        replace hog3_18 := hog3_18.pre hp37
        replace mk31 := mk31.pre hp37
        replace mk32 := mk32.pre hp37
        replace mk34 := mk34.pre hp37
        replace hoo27 := hoo27.pre hp37
        replace hoo29 := hoo29.pre hp37
        replace hoo36 := hoo36.pre hp37
        replace qz0 := qz0.trans hp37
        replace qz1 := qz1.trans hp37
        replace hq35 := hq35.trans hp37
        have hlH37 := hp37.length_le
        obtain ⟨d0a, d0b, d0c⟩ := bx0.sys
        obtain ⟨d1a, d1b, d1c⟩ := bx1.sys
        obtain ⟨eg3_18a, eg3_18b, eg3_18c⟩ := bxg3_18.sys
        obtain ⟨eo20a, eo20b, eo20c⟩ := bxo20.sys
        obtain ⟨eo22a, eo22b, eo22c⟩ := bxo22.sys
        obtain ⟨erH24_0a, erH24_0b, erH24_0c⟩ := bxrH24_0.sys
        try simp (maxSteps := 1000000) [go_sem, hbig0, hbig1, hneg0, hneg1, hng31, hng32, hng34, hp27, hp29, hp36, one0, one1, one_g3_18, one_o20, one_o22, one_rH24_0, sysV, d0a, d0b, d0c, d1a, d1b, d1c, eg3_18a, eg3_18b, eg3_18c, eo20a, eo20b, eo20c, eo22a, eo22b, eo22c, erH24_0a, erH24_0b, erH24_0c]
        refine vT_two ?_ ?_
        · skip
          try simp (maxSteps := 1000000) [go_sem, hbig0, hbig1, hneg0, hneg1, hng31, hng32, hng34, hp27, hp29, hp36, one0, one1, one_g3_18, one_o20, one_o22, one_rH24_0, sysV, d0a, d0b, d0c, d1a, d1b, d1c, eg3_18a, eg3_18b, eg3_18c, eo20a, eo20b, eo20c, eo22a, eo22b, eo22c, erH24_0a, erH24_0b, erH24_0c]
          refine implProd_ok hoo36.read hl0 hoo37.read hl1 _ ?_
          intro H38 wrH38 hp38 horH38
          replace bx0 := bx0.pre hp38
          replace bx1 := bx1.pre hp38
          replace bxg3_18 := bxg3_18.pre hp38
          replace bxo20 := bxo20.pre hp38
          replace bxo22 := bxo22.pre hp38
          replace bxrH24_0 := bxrH24_0.pre hp38
          replace hog3_18 := hog3_18.pre hp38
          replace mk31 := mk31.pre hp38
          replace mk32 := mk32.pre hp38
          replace mk34 := mk34.pre hp38
          replace hoo27 := hoo27.pre hp38
          replace hoo29 := hoo29.pre hp38
          replace hoo36 := hoo36.pre hp38
          replace hoo37 := hoo37.pre hp38
          replace qz0 := qz0.trans hp38
          replace qz1 := qz1.trans hp38
          replace hq35 := hq35.trans hp38
          have hlH38 := hp38.length_le
          obtain ⟨d0a, d0b, d0c⟩ := bx0.sys
          obtain ⟨d1a, d1b, d1c⟩ := bx1.sys
          obtain ⟨eg3_18a, eg3_18b, eg3_18c⟩ := bxg3_18.sys
          obtain ⟨eo20a, eo20b, eo20c⟩ := bxo20.sys
          obtain ⟨eo22a, eo22b, eo22c⟩ := bxo22.sys
          obtain ⟨erH24_0a, erH24_0b, erH24_0c⟩ := bxrH24_0.sys
          have one_rH38 : wrH38.oneCell' = true := horH38.read.one
          try simp (maxSteps := 1000000) [go_sem, hbig0, hbig1, hneg0, hneg1, hng31, hng32, hng34, hp27, hp29, hp36, one0, one1, one_g3_18, one_o20, one_o22, one_rH24_0, one_rH38, sysV, d0a, d0b, d0c, d1a, d1b, d1c, eg3_18a, eg3_18b, eg3_18c, eo20a, eo20b, eo20c, eo22a, eo22b, eo22c, erH24_0a, erH24_0b, erH24_0c]
          refine hQ' ⟨H38.length, H37.length, H38.length, wrH38⟩ _ _ (by simp [upF, Fr.get, Up.refl]) ?_
          exact ⟨hq35.trans (List.prefix_append _ _), by simp only; omega, by simp, Holds.last H38 [.int .i64 (rProd p0 b0 p1 b1).1.1, wrH38], by simp only; omega, by simp only [List.length_append, List.length_cons, List.length_nil]; omega, by simp only; omega, horH38.pre (List.prefix_append _ _)⟩
        · skip
          try simp (maxSteps := 1000000) [go_sem, hbig0, hbig1, hneg0, hneg1, hng31, hng32, hng34, hp27, hp29, hp36, one0, one1, one_g3_18, one_o20, one_o22, one_rH24_0, sysV, d0a, d0b, d0c, d1a, d1b, d1c, eg3_18a, eg3_18b, eg3_18c, eo20a, eo20b, eo20c, eo22a, eo22b, eo22c, erH24_0a, erH24_0b, erH24_0c]
          have hp39 : H37 <+: H37 ++ [(⟨[.int .i64 0, .slice none 0 0], true, true⟩ : Blk)] := List.prefix_append _ _
          have hzH39 : (H37 ++ [(⟨[.int .i64 0, .slice none 0 0], true, true⟩ : Blk)])[H37.length]? = some ⟨[.int .i64 0, .slice none 0 0], true, true⟩ := by simp
          have hbH39 : (H37 ++ [(⟨[.int .i64 0, .slice none 0 0], true, true⟩ : Blk)]).length = H37.length + 1 := by simp
          generalize H37 ++ [(⟨[.int .i64 0, .slice none 0 0], true, true⟩ : Blk)] = H39 at hp39 hzH39 hbH39 ⊢
          have hqH39 : H39 <+: H39 := List.prefix_refl _
          replace bx0 := bx0.pre hp39
          replace bx1 := bx1.pre hp39
          replace bxg3_18 := bxg3_18.pre hp39
          replace bxo20 := bxo20.pre hp39
          replace bxo22 := bxo22.pre hp39
          replace bxrH24_0 := bxrH24_0.pre hp39
          replace hog3_18 := hog3_18.pre hp39
          replace mk31 := mk31.pre hp39
          replace mk32 := mk32.pre hp39
          replace mk34 := mk34.pre hp39
          replace hoo27 := hoo27.pre hp39
          replace hoo29 := hoo29.pre hp39
          replace hoo36 := hoo36.pre hp39
          replace hoo37 := hoo37.pre hp39
          replace qz0 := qz0.trans hp39
          replace qz1 := qz1.trans hp39
          replace hq35 := hq35.trans hp39
          have hlH39 := hp39.length_le
          obtain ⟨d0a, d0b, d0c⟩ := bx0.sys
          obtain ⟨d1a, d1b, d1c⟩ := bx1.sys
          obtain ⟨eg3_18a, eg3_18b, eg3_18c⟩ := bxg3_18.sys
          obtain ⟨eo20a, eo20b, eo20c⟩ := bxo20.sys
          obtain ⟨eo22a, eo22b, eo22c⟩ := bxo22.sys
          obtain ⟨erH24_0a, erH24_0b, erH24_0c⟩ := bxrH24_0.sys
          try simp (maxSteps := 1000000) [go_sem, hbig0, hbig1, hneg0, hneg1, hng31, hng32, hng34, hp27, hp29, hp36, one0, one1, one_g3_18, one_o20, one_o22, one_rH24_0, sysV, d0a, d0b, d0c, d1a, d1b, d1c, eg3_18a, eg3_18b, eg3_18c, eo20a, eo20b, eo20c, eo22a, eo22b, eo22c, erH24_0a, erH24_0b, erH24_0c]
          refine implProd_ok hoo36.read hl0 hoo37.read hl1 _ ?_
          intro H40 wrH40 hp40 horH40
          replace bx0 := bx0.pre hp40
          replace bx1 := bx1.pre hp40
          replace bxg3_18 := bxg3_18.pre hp40
          replace bxo20 := bxo20.pre hp40
          replace bxo22 := bxo22.pre hp40
          replace bxrH24_0 := bxrH24_0.pre hp40
          replace hog3_18 := hog3_18.pre hp40
          replace mk31 := mk31.pre hp40
          replace mk32 := mk32.pre hp40
          replace mk34 := mk34.pre hp40
          replace hoo27 := hoo27.pre hp40
          replace hoo29 := hoo29.pre hp40
          replace hoo36 := hoo36.pre hp40
          replace hoo37 := hoo37.pre hp40
          replace qz0 := qz0.trans hp40
          replace qz1 := qz1.trans hp40
          replace hq35 := hq35.trans hp40
          replace hqH39 := hqH39.trans hp40
          have hlH40 := hp40.length_le
          obtain ⟨d0a, d0b, d0c⟩ := bx0.sys
          obtain ⟨d1a, d1b, d1c⟩ := bx1.sys
          obtain ⟨eg3_18a, eg3_18b, eg3_18c⟩ := bxg3_18.sys
          obtain ⟨eo20a, eo20b, eo20c⟩ := bxo20.sys
          obtain ⟨eo22a, eo22b, eo22c⟩ := bxo22.sys
          obtain ⟨erH24_0a, erH24_0b, erH24_0c⟩ := bxrH24_0.sys
          have one_rH40 : wrH40.oneCell' = true := horH40.read.one
          obtain ⟨st35, bh35, bs35, bl35⟩ := boxLate hzH39 hqH39 (cs := [.int .i64 (rProd p0 b0 p1 b1).1.1, wrH40]) rfl (by simp [one_int, one_rH40])
          have hid35 : H35.length ≤ H37.length := by omega
          have hpe35 := ((Same.of_prefix hq35).trans bs35).prefix (by intro j hj e; omega)
          have hke35 := horH40.keep bs35 (by rintro j ⟨h1, h2⟩ e; omega)
          generalize H40.set H37.length ⟨[.int .i64 (rProd p0 b0 p1 b1).1.1, wrH40], true, true⟩ = H41 at *
          try simp (maxSteps := 1000000) [go_sem, hbig0, hbig1, hneg0, hneg1, hng31, hng32, hng34, hp27, hp29, hp36, one0, one1, one_g3_18, one_o20, one_o22, one_rH24_0, one_rH40, st35, sysV, d0a, d0b, d0c, d1a, d1b, d1c, eg3_18a, eg3_18b, eg3_18c, eo20a, eo20b, eo20c, eo22a, eo22b, eo22c, erH24_0a, erH24_0b, erH24_0c]
          refine hQ' ⟨H37.length, H39.length, H40.length, wrH40⟩ _ _ (by simp [upF, Fr.get, Up.refl]) ?_
          exact ⟨hpe35, by simp only; omega, by simp only; omega, bh35, by simp only; omega, by simp only; omega, by simp only; omega, hke35⟩
      · skip
        try simp (maxSteps := 1000000) [go_sem, hbig0, hbig1, hneg0, hneg1, hng31, hng32, hng34, hp27, hp29, hp36, one0, one1, one_g3_18, one_o20, one_o22, one_rH24_0, sysV, d0a, d0b, d0c, d1a, d1b, d1c, eg3_18a, eg3_18b, eg3_18c, eo20a, eo20b, eo20c, eo22a, eo22b, eo22c, erH24_0a, erH24_0b, erH24_0c]
        have hp42 : H36 <+: H36 ++ [(⟨[.int .i64 0, .slice none 0 0], true, true⟩ : Blk)] := List.prefix_append _ _
        have hzH42 : (H36 ++ [(⟨[.int .i64 0, .slice none 0 0], true, true⟩ : Blk)])[H36.length]? = some ⟨[.int .i64 0, .slice none 0 0], true, true⟩ := by simp
        have hbH42 : (H36 ++ [(⟨[.int .i64 0, .slice none 0 0], true, true⟩ : Blk)]).length = H36.length + 1 := by simp
        generalize H36 ++ [(⟨[.int .i64 0, .slice none 0 0], true, true⟩ : Blk)] = H42 at hp42 hzH42 hbH42 ⊢
        have hqH42 : H42 <+: H42 := List.prefix_refl _
        replace bx0 := bx0.pre hp42
        replace bx1 := bx1.pre hp42
        replace bxg3_18 := bxg3_18.pre hp42
        replace bxo20 := bxo20.pre hp42
        replace bxo22 := bxo22.pre hp42
        replace bxrH24_0 := bxrH24_0.pre hp42
        replace hog3_18 := hog3_18.pre hp42
        replace mk31 := mk31.pre hp42
        replace mk32 := mk32.pre hp42
        replace mk34 := mk34.pre hp42
        replace hoo27 := hoo27.pre hp42
        replace hoo29 := hoo29.pre hp42
        replace hoo36 := hoo36.pre hp42
        replace qz0 := qz0.trans hp42
        replace qz1 := qz1.trans hp42
        replace hq35 := hq35.trans hp42
        have hlH42 := hp42.length_le
        obtain ⟨d0a, d0b, d0c⟩ := bx0.sys
        obtain ⟨d1a, d1b, d1c⟩ := bx1.sys
        obtain ⟨eg3_18a, eg3_18b, eg3_18c⟩ := bxg3_18.sys
        obtain ⟨eo20a, eo20b, eo20c⟩ := bxo20.sys
        obtain ⟨eo22a, eo22b, eo22c⟩ := bxo22.sys
        obtain ⟨erH24_0a, erH24_0b, erH24_0c⟩ := bxrH24_0.sys
        try simp (maxSteps := 1000000) [go_sem, hbig0, hbig1, hneg0, hneg1, hng31, hng32, hng34, hp27, hp29, hp36, one0, one1, one_g3_18, one_o20, one_o22, one_rH24_0, sysV, d0a, d0b, d0c, d1a, d1b, d1c, eg3_18a, eg3_18b, eg3_18c, eo20a, eo20b, eo20c, eo22a, eo22b, eo22c, erH24_0a, erH24_0b, erH24_0c]
        refine toSys_ok (hq1.pre qz1) hl1 _ ?_
        intro H43 wo43 hp43 hoo43
        replace bx0 := bx0.pre hp43
        replace bx1 := bx1.pre hp43
        replace bxg3_18 := bxg3_18.pre hp43
        replace bxo20 := bxo20.pre hp43
        replace bxo22 := bxo22.pre hp43
        replace bxrH24_0 := bxrH24_0.pre hp43
        replace hog3_18 := hog3_18.pre hp43
        replace mk31 := mk31.pre hp43
        replace mk32 := mk32.pre hp43
        replace mk34 := mk34.pre hp43
        replace hoo27 := hoo27.pre hp43
        replace hoo29 := hoo29.pre hp43
        replace hoo36 := hoo36.pre hp43
        replace qz0 := qz0.trans hp43
        replace qz1 := qz1.trans hp43
        replace hq35 := hq35.trans hp43
        replace hqH42 := hqH42.trans hp43
        have hlH43 := hp43.length_le
        obtain ⟨d0a, d0b, d0c⟩ := bx0.sys
        obtain ⟨d1a, d1b, d1c⟩ := bx1.sys
        obtain ⟨eg3_18a, eg3_18b, eg3_18c⟩ := bxg3_18.sys
        obtain ⟨eo20a, eo20b, eo20c⟩ := bxo20.sys
        obtain ⟨eo22a, eo22b, eo22c⟩ := bxo22.sys
        obtain ⟨erH24_0a, erH24_0b, erH24_0c⟩ := bxrH24_0.sys
        try simp (maxSteps := 1000000) [go_sem, hbig0, hbig1, hneg0, hneg1, hng31, hng32, hng34, hp27, hp29, hp36, one0, one1, one_g3_18, one_o20, one_o22, one_rH24_0, sysV, d0a, d0b, d0c, d1a, d1b, d1c, eg3_18a, eg3_18b, eg3_18c, eo20a, eo20b, eo20c, eo22a, eo22b, eo22c, erH24_0a, erH24_0b, erH24_0c]
        refine implProd_ok hoo36.read hl0 hoo43.read hl1 _ ?_
        intro H44 wrH44 hp44 horH44
        replace bx0 := bx0.pre hp44
        replace bx1 := bx1.pre hp44
        replace bxg3_18 := bxg3_18.pre hp44
        replace bxo20 := bxo20.pre hp44
        replace bxo22 := bxo22.pre hp44
        replace bxrH24_0 := bxrH24_0.pre hp44
        replace hog3_18 := hog3_18.pre hp44
        replace mk31 := mk31.pre hp44
        replace mk32 := mk32.pre hp44
        replace mk34 := mk34.pre hp44
        replace hoo27 := hoo27.pre hp44
        replace hoo29 := hoo29.pre hp44
        replace hoo36 := hoo36.pre hp44
        replace hoo43 := hoo43.pre hp44
        replace qz0 := qz0.trans hp44
        replace qz1 := qz1.trans hp44
        replace hq35 := hq35.trans hp44
        replace hqH42 := hqH42.trans hp44
        have hlH44 := hp44.length_le
        obtain ⟨d0a, d0b, d0c⟩ := bx0.sys
        obtain ⟨d1a, d1b, d1c⟩ := bx1.sys
        obtain ⟨eg3_18a, eg3_18b, eg3_18c⟩ := bxg3_18.sys
        obtain ⟨eo20a, eo20b, eo20c⟩ := bxo20.sys
        obtain ⟨eo22a, eo22b, eo22c⟩ := bxo22.sys
        obtain ⟨erH24_0a, erH24_0b, erH24_0c⟩ := bxrH24_0.sys
        have one_rH44 : wrH44.oneCell' = true := horH44.read.one
        obtain ⟨st35, bh35, bs35, bl35⟩ := boxLate hzH42 hqH42 (cs := [.int .i64 (rProd p0 b0 p1 b1).1.1, wrH44]) rfl (by simp [one_int, one_rH44])
        have hid35 : H35.length ≤ H36.length := by omega
        have hpe35 := ((Same.of_prefix hq35).trans bs35).prefix (by intro j hj e; omega)
        have hke35 := horH44.keep bs35 (by rintro j ⟨h1, h2⟩ e; omega)
        generalize H44.set H36.length ⟨[.int .i64 (rProd p0 b0 p1 b1).1.1, wrH44], true, true⟩ = H45 at *
        try simp (maxSteps := 1000000) [go_sem, hbig0, hbig1, hneg0, hneg1, hng31, hng32, hng34, hp27, hp29, hp36, one0, one1, one_g3_18, one_o20, one_o22, one_rH24_0, one_rH44, st35, sysV, d0a, d0b, d0c, d1a, d1b, d1c, eg3_18a, eg3_18b, eg3_18c, eo20a, eo20b, eo20c, eo22a, eo22b, eo22c, erH24_0a, erH24_0b, erH24_0c]
        refine hQ' ⟨H36.length, H43.length, H44.length, wrH44⟩ _ _ (by simp [upF, Fr.get, Up.refl]) ?_
        exact ⟨hpe35, by simp only; omega, by simp only; omega, bh35, by simp only; omega, by simp only; omega, by simp only; omega, hke35⟩
    · skip
      try simp (maxSteps := 1000000) [go_sem, hbig0, hbig1, hneg0, hneg1, hng31, hng32, hng34, hp27, hp29, one0, one1, one_g3_18, one_o20, one_o22, one_rH24_0, sysV, d0a, d0b, d0c, d1a, d1b, d1c, eg3_18a, eg3_18b, eg3_18c, eo20a, eo20b, eo20c, eo22a, eo22b, eo22c, erH24_0a, erH24_0b, erH24_0c]
      have hp46 : H35 <+: H35 ++ [(⟨[.int .i64 0, .slice none 0 0], true, true⟩ : Blk)] := List.prefix_append _ _
      have hzH46 : (H35 ++ [(⟨[.int .i64 0, .slice none 0 0], true, true⟩ : Blk)])[H35.length]? = some ⟨[.int .i64 0, .slice none 0 0], true, true⟩ := by simp
      have hbH46 : (H35 ++ [(⟨[.int .i64 0, .slice none 0 0], true, true⟩ : Blk)]).length = H35.length + 1 := by simp
      generalize H35 ++ [(⟨[.int .i64 0, .slice none 0 0], true, true⟩ : Blk)] = H46 at hp46 hzH46 hbH46 ⊢
      have hqH46 : H46 <+: H46 := List.prefix_refl _
      replace bx0 := bx0.pre hp46
      replace bx1 := bx1.pre hp46
      replace bxg3_18 := bxg3_18.pre hp46
      replace bxo20 := bxo20.pre hp46
      replace bxo22 := bxo22.pre hp46
      replace bxrH24_0 := bxrH24_0.pre hp46
      replace hog3_18 := hog3_18.pre hp46
      replace mk31 := mk31.pre hp46
      replace mk32 := mk32.pre hp46
      replace mk34 := mk34.pre hp46
      replace hoo27 := hoo27.pre hp46
      replace hoo29 := hoo29.pre hp46
      replace qz0 := qz0.trans hp46
      replace qz1 := qz1.trans hp46
      replace hq35 := hq35.trans hp46
      have hlH46 := hp46.length_le
      obtain ⟨d0a, d0b, d0c⟩ := bx0.sys
      obtain ⟨d1a, d1b, d1c⟩ := bx1.sys
      obtain ⟨eg3_18a, eg3_18b, eg3_18c⟩ := bxg3_18.sys
      obtain ⟨eo20a, eo20b, eo20c⟩ := bxo20.sys
      obtain ⟨eo22a, eo22b, eo22c⟩ := bxo22.sys
      obtain ⟨erH24_0a, erH24_0b, erH24_0c⟩ := bxrH24_0.sys
      try simp (maxSteps := 1000000) [go_sem, hbig0, hbig1, hneg0, hneg1, hng31, hng32, hng34, hp27, hp29, one0, one1, one_g3_18, one_o20, one_o22, one_rH24_0, sysV, d0a, d0b, d0c, d1a, d1b, d1c, eg3_18a, eg3_18b, eg3_18c, eo20a, eo20b, eo20c, eo22a, eo22b, eo22c, erH24_0a, erH24_0b, erH24_0c]
      refine toSys_ok (hq0.pre qz0) hl0 _ ?_
      intro H47 wo47 hp47 hoo47
      replace bx0 := bx0.pre hp47
      replace bx1 := bx1.pre hp47
      replace bxg3_18 := bxg3_18.pre hp47
      replace bxo20 := bxo20.pre hp47
      replace bxo22 := bxo22.pre hp47
      replace bxrH24_0 := bxrH24_0.pre hp47
      replace hog3_18 := hog3_18.pre hp47
      replace mk31 := mk31.pre hp47
      replace mk32 := mk32.pre hp47
      replace mk34 := mk34.pre hp47
      replace hoo27 := hoo27.pre hp47
      replace hoo29 := hoo29.pre hp47
      replace qz0 := qz0.trans hp47
      replace qz1 := qz1.trans hp47
      replace hq35 := hq35.trans hp47
      replace hqH46 := hqH46.trans hp47
      have hlH47 := hp47.length_le
      obtain ⟨d0a, d0b, d0c⟩ := bx0.sys
      obtain ⟨d1a, d1b, d1c⟩ := bx1.sys
      obtain ⟨eg3_18a, eg3_18b, eg3_18c⟩ := bxg3_18.sys
      obtain ⟨eo20a, eo20b, eo20c⟩ := bxo20.sys
      obtain ⟨eo22a, eo22b, eo22c⟩ := bxo22.sys
      obtain ⟨erH24_0a, erH24_0b, erH24_0c⟩ := bxrH24_0.sys
      try simp (maxSteps := 1000000) [go_sem, hbig0, hbig1, hneg0, hneg1, hng31, hng32, hng34, hp27, hp29, hp47, one0, one1, one_g3_18, one_o20, one_o22, one_rH24_0, sysV, d0a, d0b, d0c, d1a, d1b, d1c, eg3_18a, eg3_18b, eg3_18c, eo20a, eo20b, eo20c, eo22a, eo22b, eo22c, erH24_0a, erH24_0b, erH24_0c]
      refine toSys_ok (hq1.pre qz1) hl1 _ ?_
      intro H48 wo48 hp48 hoo48
      replace bx0 := bx0.pre hp48
      replace bx1 := bx1.pre hp48
      replace bxg3_18 := bxg3_18.pre hp48
      replace bxo20 := bxo20.pre hp48
      replace bxo22 := bxo22.pre hp48
      replace bxrH24_0 := bxrH24_0.pre hp48
      replace hog3_18 := hog3_18.pre hp48
      replace mk31 := mk31.pre hp48
      replace mk32 := mk32.pre hp48
      replace mk34 := mk34.pre hp48
      replace hoo27 := hoo27.pre hp48
      replace hoo29 := hoo29.pre hp48
      replace hoo47 := hoo47.pre hp48
      replace qz0 := qz0.trans hp48
      replace qz1 := qz1.trans hp48
      replace hq35 := hq35.trans hp48
      replace hqH46 := hqH46.trans hp48
      have hlH48 := hp48.length_le
      obtain ⟨d0a, d0b, d0c⟩ := bx0.sys
      obtain ⟨d1a, d1b, d1c⟩ := bx1.sys
      obtain ⟨eg3_18a, eg3_18b, eg3_18c⟩ := bxg3_18.sys
      obtain ⟨eo20a, eo20b, eo20c⟩ := bxo20.sys
      obtain ⟨eo22a, eo22b, eo22c⟩ := bxo22.sys
      obtain ⟨erH24_0a, erH24_0b, erH24_0c⟩ := bxrH24_0.sys
      try simp (maxSteps := 1000000) [go_sem, hbig0, hbig1, hneg0, hneg1, hng31, hng32, hng34, hp27, hp29, hp47, one0, one1, one_g3_18, one_o20, one_o22, one_rH24_0, sysV, d0a, d0b, d0c, d1a, d1b, d1c, eg3_18a, eg3_18b, eg3_18c, eo20a, eo20b, eo20c, eo22a, eo22b, eo22c, erH24_0a, erH24_0b, erH24_0c]
      refine implProd_ok hoo47.read hl0 hoo48.read hl1 _ ?_
      intro H49 wrH49 hp49 horH49
      replace bx0 := bx0.pre hp49
      replace bx1 := bx1.pre hp49
      replace bxg3_18 := bxg3_18.pre hp49
      replace bxo20 := bxo20.pre hp49
      replace bxo22 := bxo22.pre hp49
      replace bxrH24_0 := bxrH24_0.pre hp49
      replace hog3_18 := hog3_18.pre hp49
      replace mk31 := mk31.pre hp49
      replace mk32 := mk32.pre hp49
      replace mk34 := mk34.pre hp49
      replace hoo27 := hoo27.pre hp49
      replace hoo29 := hoo29.pre hp49
      replace hoo47 := hoo47.pre hp49
      replace hoo48 := hoo48.pre hp49
      replace qz0 := qz0.trans hp49
      replace qz1 := qz1.trans hp49
      replace hq35 := hq35.trans hp49
      replace hqH46 := hqH46.trans hp49
      have hlH49 := hp49.length_le
      obtain ⟨d0a, d0b, d0c⟩ := bx0.sys
      obtain ⟨d1a, d1b, d1c⟩ := bx1.sys
      obtain ⟨eg3_18a, eg3_18b, eg3_18c⟩ := bxg3_18.sys
      obtain ⟨eo20a, eo20b, eo20c⟩ := bxo20.sys
      obtain ⟨eo22a, eo22b, eo22c⟩ := bxo22.sys
      obtain ⟨erH24_0a, erH24_0b, erH24_0c⟩ := bxrH24_0.sys
      have one_rH49 : wrH49.oneCell' = true := horH49.read.one
      obtain ⟨st35, bh35, bs35, bl35⟩ := boxLate hzH46 hqH46 (cs := [.int .i64 (rProd p0 b0 p1 b1).1.1, wrH49]) rfl (by simp [one_int, one_rH49])
      have hid35 : H35.length ≤ H35.length := by omega
      have hpe35 := ((Same.of_prefix hq35).trans bs35).prefix (by intro j hj e; omega)
      have hke35 := horH49.keep bs35 (by rintro j ⟨h1, h2⟩ e; omega)
      generalize H49.set H35.length ⟨[.int .i64 (rProd p0 b0 p1 b1).1.1, wrH49], true, true⟩ = H50 at *
      try simp (maxSteps := 1000000) [go_sem, hbig0, hbig1, hneg0, hneg1, hng31, hng32, hng34, hp27, hp29, hp47, one0, one1, one_g3_18, one_o20, one_o22, one_rH24_0, one_rH49, st35, sysV, d0a, d0b, d0c, d1a, d1b, d1c, eg3_18a, eg3_18b, eg3_18c, eo20a, eo20b, eo20c, eo22a, eo22b, eo22c, erH24_0a, erH24_0b, erH24_0c]
      refine hQ' ⟨H35.length, H48.length, H49.length, wrH49⟩ _ _ (by simp [upF, Fr.get, Up.refl]) ?_
      exact ⟨hpe35, by simp only; omega, by simp only; omega, bh35, by simp only; omega, by simp only; omega, by simp only; omega, hke35⟩
  rintro ⟨idg35_50, log35_50, hig35_50, wg35_50⟩ H51 ⟨hp51, h1g35_50, h2g35_50, bxg35_50, h3g35_50, h4g35_50, h5g35_50, hog35_50⟩
  simp only at h1g35_50 h2g35_50 bxg35_50 h3g35_50 h4g35_50 h5g35_50 hog35_50
  replace bx0 := bx0.pre hp51
  replace bx1 := bx1.pre hp51
  replace bxg3_18 := bxg3_18.pre hp51
  replace bxo20 := bxo20.pre hp51
  replace bxo22 := bxo22.pre hp51
  replace bxrH24_0 := bxrH24_0.pre hp51
  replace hog3_18 := hog3_18.pre hp51
  replace mk31 := mk31.pre hp51
  replace mk32 := mk32.pre hp51
  replace mk34 := mk34.pre hp51
  replace hoo27 := hoo27.pre hp51
  replace hoo29 := hoo29.pre hp51
  replace qz0 := qz0.trans hp51
  replace qz1 := qz1.trans hp51
  have hlH51 := hp51.length_le
  obtain ⟨d0a, d0b, d0c⟩ := bx0.sys
  obtain ⟨d1a, d1b, d1c⟩ := bx1.sys
  obtain ⟨eg3_18a, eg3_18b, eg3_18c⟩ := bxg3_18.sys
  obtain ⟨eo20a, eo20b, eo20c⟩ := bxo20.sys
  obtain ⟨eo22a, eo22b, eo22c⟩ := bxo22.sys
  obtain ⟨erH24_0a, erH24_0b, erH24_0c⟩ := bxrH24_0.sys
  have one_g35_50 : wg35_50.oneCell' = true := hog35_50.read.one
  obtain ⟨eg35_50a, eg35_50b, eg35_50c⟩ := bxg35_50.sys
  try simp (maxSteps := 1000000) [go_sem, hbig0, hbig1, hneg0, hneg1, hng31, hng32, hng34, hp27, hp29, one0, one1, one_g35_50, one_g3_18, one_o20, one_o22, one_rH24_0, sysV, d0a, d0b, d0c, d1a, d1b, d1c, eg3_18a, eg3_18b, eg3_18c, eo20a, eo20b, eo20c, eo22a, eo22b, eo22c, erH24_0a, erH24_0b, erH24_0c, eg35_50a, eg35_50b, eg35_50c]
  refine eqSystem_ok hog35_50.read hog3_18.read _ ?_
  intro H52 hp52
  replace bx0 := bx0.pre hp52
  replace bx1 := bx1.pre hp52
  replace bxg3_18 := bxg3_18.pre hp52
  replace bxo20 := bxo20.pre hp52
  replace bxo22 := bxo22.pre hp52
  replace bxrH24_0 := bxrH24_0.pre hp52
  replace bxg35_50 := bxg35_50.pre hp52
  replace hog3_18 := hog3_18.pre hp52
  replace mk31 := mk31.pre hp52
  replace mk32 := mk32.pre hp52
  replace mk34 := mk34.pre hp52
  replace hoo27 := hoo27.pre hp52
  replace hoo29 := hoo29.pre hp52
  replace hog35_50 := hog35_50.pre hp52
  replace qz0 := qz0.trans hp52
  replace qz1 := qz1.trans hp52
  have hlH52 := hp52.length_le
  obtain ⟨d0a, d0b, d0c⟩ := bx0.sys
  obtain ⟨d1a, d1b, d1c⟩ := bx1.sys
  obtain ⟨eg3_18a, eg3_18b, eg3_18c⟩ := bxg3_18.sys
  obtain ⟨eo20a, eo20b, eo20c⟩ := bxo20.sys
  obtain ⟨eo22a, eo22b, eo22c⟩ := bxo22.sys
  obtain ⟨erH24_0a, erH24_0b, erH24_0c⟩ := bxrH24_0.sys
  obtain ⟨eg35_50a, eg35_50b, eg35_50c⟩ := bxg35_50.sys
  try simp (maxSteps := 1000000) [go_sem, hbig0, hbig1, hneg0, hneg1, hng31, hng32, hng34, hp27, hp29, one0, one1, one_g35_50, one_g3_18, one_o20, one_o22, one_rH24_0, sysV, d0a, d0b, d0c, d1a, d1b, d1c, eg3_18a, eg3_18b, eg3_18c, eo20a, eo20b, eo20c, eo22a, eo22b, eo22c, erH24_0a, erH24_0b, erH24_0c, eg35_50a, eg35_50b, eg35_50c]
  refine heldSys_ok mk34 (by omega) (by omega) _ ?_
  intro H53 hp53
  replace bx0 := bx0.pre hp53
  replace bx1 := bx1.pre hp53
  replace bxg3_18 := bxg3_18.pre hp53
  replace bxo20 := bxo20.pre hp53
  replace bxo22 := bxo22.pre hp53
  replace bxrH24_0 := bxrH24_0.pre hp53
  replace bxg35_50 := bxg35_50.pre hp53
  replace hog3_18 := hog3_18.pre hp53
  replace mk31 := mk31.pre hp53
  replace mk32 := mk32.pre hp53
  replace mk34 := mk34.pre hp53
  replace hoo27 := hoo27.pre hp53
  replace hoo29 := hoo29.pre hp53
  replace hog35_50 := hog35_50.pre hp53
  replace qz0 := qz0.trans hp53
  replace qz1 := qz1.trans hp53
  have hlH53 := hp53.length_le
  obtain ⟨d0a, d0b, d0c⟩ := bx0.sys
  obtain ⟨d1a, d1b, d1c⟩ := bx1.sys
  obtain ⟨eg3_18a, eg3_18b, eg3_18c⟩ := bxg3_18.sys
  obtain ⟨eo20a, eo20b, eo20c⟩ := bxo20.sys
  obtain ⟨eo22a, eo22b, eo22c⟩ := bxo22.sys
  obtain ⟨erH24_0a, erH24_0b, erH24_0c⟩ := bxrH24_0.sys
  obtain ⟨eg35_50a, eg35_50b, eg35_50c⟩ := bxg35_50.sys
  try simp (maxSteps := 1000000) [go_sem, hbig0, hbig1, hneg0, hneg1, hng31, hng32, hng34, hp27, hp29, one0, one1, one_g35_50, one_g3_18, one_o20, one_o22, one_rH24_0, sysV, d0a, d0b, d0c, d1a, d1b, d1c, eg3_18a, eg3_18b, eg3_18c, eo20a, eo20b, eo20c, eo22a, eo22b, eo22c, erH24_0a, erH24_0b, erH24_0c, eg35_50a, eg35_50b, eg35_50c]

end Go.Proofs.Ytdfeoccjllljiaa
end
