/- Part 13 of what the proof of the law FnExactPutBlock rests on: contracts of functions of the program, for every argument that each names; no statement of the seat is proved here. -/
import Derived.Test.YtakkmkinfeddeaaFnExactPutBlockPart12

section
/- The law on PutBlock, in abstract terms: its code returns true, for every input. -/
set_option linter.all false
set_option maxRecDepth 20000
set_option maxHeartbeats 8000000
namespace Go.Proofs.Ytakkmkinfeddeaa
open Go.Ab

theorem lawFnExactPutBlock (H : Heap) (avs : List Value) (h : argsSay [shSystem, shBlock] H avs) : ACalls Try.prog 10 avs H fun v _ => v = .bool true := by
  obtain ⟨_, _, rfl, a0, _, _, rfl, a1, rfl⟩ := h
  obtain ⟨p0, u0, b0, rfl, hp00, hz0, hw0⟩ := says_shSystem a0
  have one0 : u0.oneCell' = true := by obtain ⟨i, o, rfl, _⟩ := hz0; rfl
  obtain ⟨b1, rfl, hn1⟩ := says_shBlock a1
  refine acalls_vc (rs := [.tmp 4]) Try.func10 rfl rfl Try.ntmps10 rfl rfl ?_
  try simp (maxSteps := 1000000) [go_sem, Bk.val, one0, sysV]
  have hp1 : H <+: H ++ [(⟨[.int .i64 p0, u0], true, true⟩ : Blk), (⟨[.int .i64 b1.a, .int .i64 b1.b, .int .i64 b1.c], true, true⟩ : Blk)] := List.prefix_append _ _
  have bx0 : Holds (H ++ [(⟨[.int .i64 p0, u0], true, true⟩ : Blk), (⟨[.int .i64 b1.a, .int .i64 b1.b, .int .i64 b1.c], true, true⟩ : Blk)]) (H.length) [.int .i64 p0, u0] := ⟨true, by simp⟩
  have bx1 : Holds (H ++ [(⟨[.int .i64 p0, u0], true, true⟩ : Blk), (⟨[.int .i64 b1.a, .int .i64 b1.b, .int .i64 b1.c], true, true⟩ : Blk)]) (H.length + 1) [.int .i64 b1.a, .int .i64 b1.b, .int .i64 b1.c] := ⟨true, by simp⟩
  have hbH1 : (H ++ [(⟨[.int .i64 p0, u0], true, true⟩ : Blk), (⟨[.int .i64 b1.a, .int .i64 b1.b, .int .i64 b1.c], true, true⟩ : Blk)]).length = H.length + 2 := by simp
  generalize H ++ [(⟨[.int .i64 p0, u0], true, true⟩ : Blk), (⟨[.int .i64 b1.a, .int .i64 b1.b, .int .i64 b1.c], true, true⟩ : Blk)] = H1 at hp1 hbH1 bx0 bx1 ⊢
  have hlH1 := hp1.length_le
  have qz0 := hp1
  have qz1 := hp1
  obtain ⟨d0a, d0b, d0c⟩ := bx0.sys
  obtain ⟨d1a, d1b, d1c, d1d⟩ := bx1.bk
  refine szSystem0_ok (hz0.pre qz0) (by omega) (by omega) _ ?_
  intro H2 hp2
  replace bx0 := bx0.pre hp2
  replace bx1 := bx1.pre hp2
  replace qz0 := qz0.trans hp2
  have hlH2 := hp2.length_le
  obtain ⟨d0a, d0b, d0c⟩ := bx0.sys
  obtain ⟨d1a, d1b, d1c, d1d⟩ := bx1.bk
  by_cases hbig0 : (1048576 : Int) < b0.length
  · simp (maxSteps := 1000000) [go_sem, hbig0, Bk.val, one0, sysV]
  have hneg0 : decide ((1048576 : Int) - b0.length < 0) = false := by simp; omega
  have hl0 : b0.length ≤ 1048576 := by omega
  have hq0 := hz0.at (by omega)
  try simp (maxSteps := 1000000) [go_sem, Bk.val, hbig0, hneg0, one0, sysV, d0a, d0b, d0c, d1a, d1b, d1c, d1d]
  refine AWp.regCut (St := Nat × Nat × Nat × Value) (fun s => [(6, .pointer (some ⟨s.1, 0, none⟩)), (7, .int .i64 ((rPut p0 b0 b1).2))])
    (fun s H' => H2 <+: H' ∧ H2.length ≤ s.1 ∧ s.1 < H'.length ∧ Holds H' s.1 [.int .i64 (rPut p0 b0 b1).1.1, s.2.2.2] ∧ H2.length ≤ s.2.1 ∧ s.2.2.1 ≤ H'.length ∧ (s.1 < s.2.1 ∨ s.2.2.1 ≤ s.1) ∧ BlocksIn s.2.1 s.2.2.1 H' s.2.2.2 ((rPut p0 b0 b1).1.2)) ?_ ?_
  · intro Q' hQ'
    have hq2 : H2 <+: H2 := List.prefix_refl _
    refine AWp.drawF mixed [8] [(0, false), (2, false), (1, true), (3, false), (4, false), (5, false), (6, false), (7, false), (8, true), (9, false), (10, false)] (.one 0 false (.one 2 false (.two 1 true (.two 3 false (.two 4 false (.one 5 false (.one 6 false (.one 7 false (.one 8 true (.one 9 false (.one 10 false .nil)))))) 8 (.one 4 false (.one 5 false (.one 6 false (.one 7 false (.one 9 false (.one 10 false .nil))))))) 8 (.one 3 false (.one 4 false (.one 5 false (.one 6 false (.one 7 false (.one 9 false (.one 10 false .nil)))))))) 8 (.one 1 true (.one 3 false (.one 4 false (.one 5 false (.one 6 false (.one 7 false (.one 9 false (.one 10 false .nil))))))))))) (by kernel_rfl) ?_
    try simp (maxSteps := 1000000) [go_sem, Bk.val, hbig0, hneg0, one0, sysV, d0a, d0b, d0c, d1a, d1b, d1c, d1d]
    refine vT_two ?_ ?_
    · skip
      try simp (maxSteps := 1000000) [go_sem, Bk.val, hbig0, hneg0, one0, sysV, d0a, d0b, d0c, d1a, d1b, d1c, d1d]
      refine toSys_ok (hq0.pre qz0) hl0 _ ?_
      intro H3 wo3 hp3 hoo3
      replace bx0 := bx0.pre hp3
      replace bx1 := bx1.pre hp3
      replace qz0 := qz0.trans hp3
      replace hq2 := hq2.trans hp3
      have hlH3 := hp3.length_le
      obtain ⟨d0a, d0b, d0c⟩ := bx0.sys
      obtain ⟨d1a, d1b, d1c, d1d⟩ := bx1.bk
      try simp (maxSteps := 1000000) [go_sem, Bk.val, hbig0, hneg0, hp3, one0, sysV, d0a, d0b, d0c, d1a, d1b, d1c, d1d]
      refine vT_two ?_ ?_
      · skip
        try simp (maxSteps := 1000000) [go_sem, Bk.val, hbig0, hneg0, hp3, one0, sysV, d0a, d0b, d0c, d1a, d1b, d1c, d1d]
        refine toBlock_ok (b := b1) _ ?_
        intro H4 hp4
        replace bx0 := bx0.pre hp4
        replace bx1 := bx1.pre hp4
        replace hoo3 := hoo3.pre hp4
        replace qz0 := qz0.trans hp4
        replace hq2 := hq2.trans hp4
        have hlH4 := hp4.length_le
        obtain ⟨d0a, d0b, d0c⟩ := bx0.sys
        obtain ⟨d1a, d1b, d1c, d1d⟩ := bx1.bk
        try simp (maxSteps := 1000000) [go_sem, Bk.val, hbig0, hneg0, hp3, one0, sysV, d0a, d0b, d0c, d1a, d1b, d1c, d1d]
        refine vT_two ?_ ?_
        · skip
          try simp (maxSteps := 1000000) [go_sem, Bk.val, hbig0, hneg0, hp3, one0, sysV, d0a, d0b, d0c, d1a, d1b, d1c, d1d]
          refine specPut_ok hoo3.read hl0 (b := b1) hn1 _ ?_
          intro H5 wrH5 hp5 horH5
          replace bx0 := bx0.pre hp5
          replace bx1 := bx1.pre hp5
          replace hoo3 := hoo3.pre hp5
          replace qz0 := qz0.trans hp5
          replace hq2 := hq2.trans hp5
          have hlH5 := hp5.length_le
          obtain ⟨d0a, d0b, d0c⟩ := bx0.sys
          obtain ⟨d1a, d1b, d1c, d1d⟩ := bx1.bk
          have one_rH5 : wrH5.oneCell' = true := horH5.read.one
          try simp (maxSteps := 1000000) [go_sem, Bk.val, hbig0, hneg0, hp3, one0, one_rH5, sysV, d0a, d0b, d0c, d1a, d1b, d1c, d1d]
          refine hQ' ⟨H5.length, H4.length, H5.length, wrH5⟩ _ _ (by simp [upF, Fr.get, Up.refl]) ?_
          exact ⟨hq2.trans (List.prefix_append _ _), by simp only; omega, by simp, Holds.last H5 [.int .i64 (rPut p0 b0 b1).1.1, wrH5], by simp only; omega, by simp only [List.length_append, List.length_cons, List.length_nil]; omega, by simp only; omega, horH5.pre (List.prefix_append _ _)⟩
        · skip
          try simp (maxSteps := 1000000) [go_sem, Bk.val, hbig0, hneg0, hp3, one0, sysV, d0a, d0b, d0c, d1a, d1b, d1c, d1d]
          have hp6 : H4 <+: H4 ++ [(⟨[.int .i64 0, .slice none 0 0], true, true⟩ : Blk)] := List.prefix_append _ _
          have hzH6 : (H4 ++ [(⟨[.int .i64 0, .slice none 0 0], true, true⟩ : Blk)])[H4.length]? = some ⟨[.int .i64 0, .slice none 0 0], true, true⟩ := by simp
          have hbH6 : (H4 ++ [(⟨[.int .i64 0, .slice none 0 0], true, true⟩ : Blk)]).length = H4.length + 1 := by simp
          generalize H4 ++ [(⟨[.int .i64 0, .slice none 0 0], true, true⟩ : Blk)] = H6 at hp6 hzH6 hbH6 ⊢
          have hqH6 : H6 <+: H6 := List.prefix_refl _
          replace bx0 := bx0.pre hp6
          replace bx1 := bx1.pre hp6
          replace hoo3 := hoo3.pre hp6
          replace qz0 := qz0.trans hp6
          replace hq2 := hq2.trans hp6
          have hlH6 := hp6.length_le
          obtain ⟨d0a, d0b, d0c⟩ := bx0.sys
          obtain ⟨d1a, d1b, d1c, d1d⟩ := bx1.bk
          try simp (maxSteps := 1000000) [go_sem, Bk.val, hbig0, hneg0, hp3, one0, sysV, d0a, d0b, d0c, d1a, d1b, d1c, d1d]
          refine specPut_ok hoo3.read hl0 (b := b1) hn1 _ ?_
          intro H7 wrH7 hp7 horH7
          replace bx0 := bx0.pre hp7
          replace bx1 := bx1.pre hp7
          replace hoo3 := hoo3.pre hp7
          replace qz0 := qz0.trans hp7
          replace hq2 := hq2.trans hp7
          replace hqH6 := hqH6.trans hp7
          have hlH7 := hp7.length_le
          obtain ⟨d0a, d0b, d0c⟩ := bx0.sys
          obtain ⟨d1a, d1b, d1c, d1d⟩ := bx1.bk
          have one_rH7 : wrH7.oneCell' = true := horH7.read.one
          obtain ⟨st2, bh2, bs2, bl2⟩ := boxLate hzH6 hqH6 (cs := [.int .i64 (rPut p0 b0 b1).1.1, wrH7]) rfl (by simp [one_int, one_rH7])
          have hid2 : H2.length ≤ H4.length := by omega
          have hpe2 := ((Same.of_prefix hq2).trans bs2).prefix (by intro j hj e; omega)
          have hke2 := horH7.keep bs2 (by rintro j ⟨h1, h2⟩ e; omega)
          generalize H7.set H4.length ⟨[.int .i64 (rPut p0 b0 b1).1.1, wrH7], true, true⟩ = H8 at *
          try simp (maxSteps := 1000000) [go_sem, Bk.val, hbig0, hneg0, hp3, one0, one_rH7, st2, sysV, d0a, d0b, d0c, d1a, d1b, d1c, d1d]
          refine hQ' ⟨H4.length, H6.length, H7.length, wrH7⟩ _ _ (by simp [upF, Fr.get, Up.refl]) ?_
          exact ⟨hpe2, by simp only; omega, by simp only; omega, bh2, by simp only; omega, by simp only; omega, by simp only; omega, hke2⟩
      · skip
        try simp (maxSteps := 1000000) [go_sem, Bk.val, hbig0, hneg0, hp3, one0, sysV, d0a, d0b, d0c, d1a, d1b, d1c, d1d]
        have hp9 : H3 <+: H3 ++ [(⟨[.int .i64 0, .slice none 0 0], true, true⟩ : Blk)] := List.prefix_append _ _
        have hzH9 : (H3 ++ [(⟨[.int .i64 0, .slice none 0 0], true, true⟩ : Blk)])[H3.length]? = some ⟨[.int .i64 0, .slice none 0 0], true, true⟩ := by simp
        have hbH9 : (H3 ++ [(⟨[.int .i64 0, .slice none 0 0], true, true⟩ : Blk)]).length = H3.length + 1 := by simp
        generalize H3 ++ [(⟨[.int .i64 0, .slice none 0 0], true, true⟩ : Blk)] = H9 at hp9 hzH9 hbH9 ⊢
        have hqH9 : H9 <+: H9 := List.prefix_refl _
        replace bx0 := bx0.pre hp9
        replace bx1 := bx1.pre hp9
        replace hoo3 := hoo3.pre hp9
        replace qz0 := qz0.trans hp9
        replace hq2 := hq2.trans hp9
        have hlH9 := hp9.length_le
        obtain ⟨d0a, d0b, d0c⟩ := bx0.sys
        obtain ⟨d1a, d1b, d1c, d1d⟩ := bx1.bk
        try simp (maxSteps := 1000000) [go_sem, Bk.val, hbig0, hneg0, hp3, one0, sysV, d0a, d0b, d0c, d1a, d1b, d1c, d1d]
        refine toBlock_ok (b := b1) _ ?_
        intro H10 hp10
        replace bx0 := bx0.pre hp10
        replace bx1 := bx1.pre hp10
        replace hoo3 := hoo3.pre hp10
        replace qz0 := qz0.trans hp10
        replace hq2 := hq2.trans hp10
        replace hqH9 := hqH9.trans hp10
        have hlH10 := hp10.length_le
        obtain ⟨d0a, d0b, d0c⟩ := bx0.sys
        obtain ⟨d1a, d1b, d1c, d1d⟩ := bx1.bk
        try simp (maxSteps := 1000000) [go_sem, Bk.val, hbig0, hneg0, hp3, one0, sysV, d0a, d0b, d0c, d1a, d1b, d1c, d1d]
        refine specPut_ok hoo3.read hl0 (b := b1) hn1 _ ?_
        intro H11 wrH11 hp11 horH11
        replace bx0 := bx0.pre hp11
        replace bx1 := bx1.pre hp11
        replace hoo3 := hoo3.pre hp11
        replace qz0 := qz0.trans hp11
        replace hq2 := hq2.trans hp11
        replace hqH9 := hqH9.trans hp11
        have hlH11 := hp11.length_le
        obtain ⟨d0a, d0b, d0c⟩ := bx0.sys
        obtain ⟨d1a, d1b, d1c, d1d⟩ := bx1.bk
        have one_rH11 : wrH11.oneCell' = true := horH11.read.one
        obtain ⟨st2, bh2, bs2, bl2⟩ := boxLate hzH9 hqH9 (cs := [.int .i64 (rPut p0 b0 b1).1.1, wrH11]) rfl (by simp [one_int, one_rH11])
        have hid2 : H2.length ≤ H3.length := by omega
        have hpe2 := ((Same.of_prefix hq2).trans bs2).prefix (by intro j hj e; omega)
        have hke2 := horH11.keep bs2 (by rintro j ⟨h1, h2⟩ e; omega)
        generalize H11.set H3.length ⟨[.int .i64 (rPut p0 b0 b1).1.1, wrH11], true, true⟩ = H12 at *
        try simp (maxSteps := 1000000) [go_sem, Bk.val, hbig0, hneg0, hp3, one0, one_rH11, st2, sysV, d0a, d0b, d0c, d1a, d1b, d1c, d1d]
        refine hQ' ⟨H3.length, H10.length, H11.length, wrH11⟩ _ _ (by simp [upF, Fr.get, Up.refl]) ?_
        exact ⟨hpe2, by simp only; omega, by simp only; omega, bh2, by simp only; omega, by simp only; omega, by simp only; omega, hke2⟩
    · skip
      try simp (maxSteps := 1000000) [go_sem, Bk.val, hbig0, hneg0, one0, sysV, d0a, d0b, d0c, d1a, d1b, d1c, d1d]
      have hp13 : H2 <+: H2 ++ [(⟨[.int .i64 0, .slice none 0 0], true, true⟩ : Blk)] := List.prefix_append _ _
      have hzH13 : (H2 ++ [(⟨[.int .i64 0, .slice none 0 0], true, true⟩ : Blk)])[H2.length]? = some ⟨[.int .i64 0, .slice none 0 0], true, true⟩ := by simp
      have hbH13 : (H2 ++ [(⟨[.int .i64 0, .slice none 0 0], true, true⟩ : Blk)]).length = H2.length + 1 := by simp
      generalize H2 ++ [(⟨[.int .i64 0, .slice none 0 0], true, true⟩ : Blk)] = H13 at hp13 hzH13 hbH13 ⊢
      have hqH13 : H13 <+: H13 := List.prefix_refl _
      replace bx0 := bx0.pre hp13
      replace bx1 := bx1.pre hp13
      replace qz0 := qz0.trans hp13
      replace hq2 := hq2.trans hp13
      have hlH13 := hp13.length_le
      obtain ⟨d0a, d0b, d0c⟩ := bx0.sys
      obtain ⟨d1a, d1b, d1c, d1d⟩ := bx1.bk
      try simp (maxSteps := 1000000) [go_sem, Bk.val, hbig0, hneg0, one0, sysV, d0a, d0b, d0c, d1a, d1b, d1c, d1d]
      refine toSys_ok (hq0.pre qz0) hl0 _ ?_
      intro H14 wo14 hp14 hoo14
      replace bx0 := bx0.pre hp14
      replace bx1 := bx1.pre hp14
      replace qz0 := qz0.trans hp14
      replace hq2 := hq2.trans hp14
      replace hqH13 := hqH13.trans hp14
      have hlH14 := hp14.length_le
      obtain ⟨d0a, d0b, d0c⟩ := bx0.sys
      obtain ⟨d1a, d1b, d1c, d1d⟩ := bx1.bk
      try simp (maxSteps := 1000000) [go_sem, Bk.val, hbig0, hneg0, hp14, one0, sysV, d0a, d0b, d0c, d1a, d1b, d1c, d1d]
      refine toBlock_ok (b := b1) _ ?_
      intro H15 hp15
      replace bx0 := bx0.pre hp15
      replace bx1 := bx1.pre hp15
      replace hoo14 := hoo14.pre hp15
      replace qz0 := qz0.trans hp15
      replace hq2 := hq2.trans hp15
      replace hqH13 := hqH13.trans hp15
      have hlH15 := hp15.length_le
      obtain ⟨d0a, d0b, d0c⟩ := bx0.sys
      obtain ⟨d1a, d1b, d1c, d1d⟩ := bx1.bk
      try simp (maxSteps := 1000000) [go_sem, Bk.val, hbig0, hneg0, hp14, one0, sysV, d0a, d0b, d0c, d1a, d1b, d1c, d1d]
      refine specPut_ok hoo14.read hl0 (b := b1) hn1 _ ?_
      intro H16 wrH16 hp16 horH16
      replace bx0 := bx0.pre hp16
      replace bx1 := bx1.pre hp16
      replace hoo14 := hoo14.pre hp16
      replace qz0 := qz0.trans hp16
      replace hq2 := hq2.trans hp16
      replace hqH13 := hqH13.trans hp16
      have hlH16 := hp16.length_le
      obtain ⟨d0a, d0b, d0c⟩ := bx0.sys
      obtain ⟨d1a, d1b, d1c, d1d⟩ := bx1.bk
      have one_rH16 : wrH16.oneCell' = true := horH16.read.one
      obtain ⟨st2, bh2, bs2, bl2⟩ := boxLate hzH13 hqH13 (cs := [.int .i64 (rPut p0 b0 b1).1.1, wrH16]) rfl (by simp [one_int, one_rH16])
      have hid2 : H2.length ≤ H2.length := by omega
      have hpe2 := ((Same.of_prefix hq2).trans bs2).prefix (by intro j hj e; omega)
      have hke2 := horH16.keep bs2 (by rintro j ⟨h1, h2⟩ e; omega)
      generalize H16.set H2.length ⟨[.int .i64 (rPut p0 b0 b1).1.1, wrH16], true, true⟩ = H17 at *
      try simp (maxSteps := 1000000) [go_sem, Bk.val, hbig0, hneg0, hp14, one0, one_rH16, st2, sysV, d0a, d0b, d0c, d1a, d1b, d1c, d1d]
      refine hQ' ⟨H2.length, H15.length, H16.length, wrH16⟩ _ _ (by simp [upF, Fr.get, Up.refl]) ?_
      exact ⟨hpe2, by simp only; omega, by simp only; omega, bh2, by simp only; omega, by simp only; omega, by simp only; omega, hke2⟩
  rintro ⟨idg2_17, log2_17, hig2_17, wg2_17⟩ H18 ⟨hp18, h1g2_17, h2g2_17, bxg2_17, h3g2_17, h4g2_17, h5g2_17, hog2_17⟩
  simp only at h1g2_17 h2g2_17 bxg2_17 h3g2_17 h4g2_17 h5g2_17 hog2_17
  replace bx0 := bx0.pre hp18
  replace bx1 := bx1.pre hp18
  replace qz0 := qz0.trans hp18
  have hlH18 := hp18.length_le
  obtain ⟨d0a, d0b, d0c⟩ := bx0.sys
  obtain ⟨d1a, d1b, d1c, d1d⟩ := bx1.bk
  have one_g2_17 : wg2_17.oneCell' = true := hog2_17.read.one
  obtain ⟨eg2_17a, eg2_17b, eg2_17c⟩ := bxg2_17.sys
  try simp (maxSteps := 1000000) [go_sem, Bk.val, hbig0, hneg0, one0, one_g2_17, sysV, d0a, d0b, d0c, d1a, d1b, d1c, d1d, eg2_17a, eg2_17b, eg2_17c]
  refine toSys_ok (hq0.pre qz0) hl0 _ ?_
  intro H19 wo19 hp19 hoo19
  replace bx0 := bx0.pre hp19
  replace bx1 := bx1.pre hp19
  replace bxg2_17 := bxg2_17.pre hp19
  replace hog2_17 := hog2_17.pre hp19
  replace qz0 := qz0.trans hp19
  have hlH19 := hp19.length_le
  obtain ⟨d0a, d0b, d0c⟩ := bx0.sys
  obtain ⟨d1a, d1b, d1c, d1d⟩ := bx1.bk
  obtain ⟨eg2_17a, eg2_17b, eg2_17c⟩ := bxg2_17.sys
  have one_o19 : wo19.oneCell' = true := hoo19.read.one
  try simp (maxSteps := 1000000) [go_sem, Bk.val, hbig0, hneg0, one0, one_g2_17, one_o19, sysV, d0a, d0b, d0c, d1a, d1b, d1c, d1d, eg2_17a, eg2_17b, eg2_17c]
  have bxo19 := Holds.last H19 [.int .i64 p0, wo19]
  have hp20 : H19 <+: H19 ++ [(⟨[.int .i64 p0, wo19], true, true⟩ : Blk)] := List.prefix_append _ _
  have hbH20 : (H19 ++ [(⟨[.int .i64 p0, wo19], true, true⟩ : Blk)]).length = H19.length + 1 := by simp
  generalize H19 ++ [(⟨[.int .i64 p0, wo19], true, true⟩ : Blk)] = H20 at bxo19 hp20 hbH20 ⊢
  replace bx0 := bx0.pre hp20
  replace bx1 := bx1.pre hp20
  replace bxg2_17 := bxg2_17.pre hp20
  replace hog2_17 := hog2_17.pre hp20
  replace hoo19 := hoo19.pre hp20
  replace qz0 := qz0.trans hp20
  have hlH20 := hp20.length_le
  obtain ⟨d0a, d0b, d0c⟩ := bx0.sys
  obtain ⟨d1a, d1b, d1c, d1d⟩ := bx1.bk
  obtain ⟨eg2_17a, eg2_17b, eg2_17c⟩ := bxg2_17.sys
  obtain ⟨eo19a, eo19b, eo19c⟩ := bxo19.sys
  try simp (maxSteps := 1000000) [go_sem, Bk.val, hbig0, hneg0, one0, one_g2_17, one_o19, sysV, d0a, d0b, d0c, d1a, d1b, d1c, d1d, eg2_17a, eg2_17b, eg2_17c, eo19a, eo19b, eo19c]
  refine AWp.regCut (St := Nat × Nat × Nat × Value) (fun s => [(9, .pointer (some ⟨s.1, 0, none⟩)), (10, .int .i64 ((rPut p0 b0 b1).2))])
    (fun s H' => H20 <+: H' ∧ H20.length ≤ s.1 ∧ s.1 < H'.length ∧ Holds H' s.1 [.int .i64 (rPut p0 b0 b1).1.1, s.2.2.2] ∧ H20.length ≤ s.2.1 ∧ s.2.2.1 ≤ H'.length ∧ (s.1 < s.2.1 ∨ s.2.2.1 ≤ s.1) ∧ BlocksIn s.2.1 s.2.2.1 H' s.2.2.2 ((rPut p0 b0 b1).1.2)) ?_ ?_
  · intro Q' hQ'
    have hq20 : H20 <+: H20 := List.prefix_refl _
    refine AWp.drawF mixed [7] [(0, false), (1, false), (2, true), (3, false), (4, false), (5, false), (6, false), (7, true), (8, false), (9, false)] (.one 0 false (.one 1 false (.two 2 true (.two 3 false (.one 4 false (.one 5 false (.one 6 false (.one 7 true (.one 8 false (.one 9 false .nil)))))) 7 (.one 3 false (.one 4 false (.one 5 false (.one 6 false (.one 8 false (.one 9 false .nil))))))) 7 (.one 2 true (.one 3 false (.one 4 false (.one 5 false (.one 6 false (.one 8 false (.one 9 false .nil)))))))))) (by kernel_rfl) ?_
    try simp (maxSteps := 1000000) [go_sem, Bk.val, hbig0, hneg0, one0, one_g2_17, one_o19, sysV, d0a, d0b, d0c, d1a, d1b, d1c, d1d, eg2_17a, eg2_17b, eg2_17c, eo19a, eo19b, eo19c]
    refine vT_two ?_ ?_
    · skip
      try simp (maxSteps := 1000000) [go_sem, Bk.val, hbig0, hneg0, one0, one_g2_17, one_o19, sysV, d0a, d0b, d0c, d1a, d1b, d1c, d1d, eg2_17a, eg2_17b, eg2_17c, eo19a, eo19b, eo19c]
      refine toBlock_ok (b := b1) _ ?_
      intro H21 hp21
      replace bx0 := bx0.pre hp21
      replace bx1 := bx1.pre hp21
      replace bxg2_17 := bxg2_17.pre hp21
      replace bxo19 := bxo19.pre hp21
      replace hog2_17 := hog2_17.pre hp21
      replace hoo19 := hoo19.pre hp21
      replace qz0 := qz0.trans hp21
      replace hq20 := hq20.trans hp21
      have hlH21 := hp21.length_le
      obtain ⟨d0a, d0b, d0c⟩ := bx0.sys
      obtain ⟨d1a, d1b, d1c, d1d⟩ := bx1.bk
      obtain ⟨eg2_17a, eg2_17b, eg2_17c⟩ := bxg2_17.sys
      obtain ⟨eo19a, eo19b, eo19c⟩ := bxo19.sys
      try simp (maxSteps := 1000000) [go_sem, Bk.val, hbig0, hneg0, hp21, one0, one_g2_17, one_o19, sysV, d0a, d0b, d0c, d1a, d1b, d1c, d1d, eg2_17a, eg2_17b, eg2_17c, eo19a, eo19b, eo19c]
      refine vT_two ?_ ?_
      · skip
        try simp (maxSteps := 1000000) [go_sem, Bk.val, hbig0, hneg0, hp21, one0, one_g2_17, one_o19, sysV, d0a, d0b, d0c, d1a, d1b, d1c, d1d, eg2_17a, eg2_17b, eg2_17c, eo19a, eo19b, eo19c]
        refine implPut_ok hoo19.read hl0 (b := b1) hn1 _ ?_
        intro H22 wrH22 hp22 horH22
        replace bx0 := bx0.pre hp22
        replace bx1 := bx1.pre hp22
        replace bxg2_17 := bxg2_17.pre hp22
        replace bxo19 := bxo19.pre hp22
        replace hog2_17 := hog2_17.pre hp22
        replace hoo19 := hoo19.pre hp22
        replace qz0 := qz0.trans hp22
        replace hq20 := hq20.trans hp22
        have hlH22 := hp22.length_le
        obtain ⟨d0a, d0b, d0c⟩ := bx0.sys
        obtain ⟨d1a, d1b, d1c, d1d⟩ := bx1.bk
        obtain ⟨eg2_17a, eg2_17b, eg2_17c⟩ := bxg2_17.sys
        obtain ⟨eo19a, eo19b, eo19c⟩ := bxo19.sys
        have one_rH22 : wrH22.oneCell' = true := horH22.read.one
        try simp (maxSteps := 1000000) [go_sem, Bk.val, hbig0, hneg0, hp21, one0, one_g2_17, one_o19, one_rH22, sysV, d0a, d0b, d0c, d1a, d1b, d1c, d1d, eg2_17a, eg2_17b, eg2_17c, eo19a, eo19b, eo19c]
        refine hQ' ⟨H22.length, H21.length, H22.length, wrH22⟩ _ _ (by simp [upF, Fr.get, Up.refl]) ?_
        exact ⟨hq20.trans (List.prefix_append _ _), by simp only; omega, by simp, Holds.last H22 [.int .i64 (rPut p0 b0 b1).1.1, wrH22], by simp only; omega, by simp only [List.length_append, List.length_cons, List.length_nil]; omega, by simp only; omega, horH22.pre (List.prefix_append _ _)⟩
      · skip
        try simp (maxSteps := 1000000) [go_sem, Bk.val, hbig0, hneg0, hp21, one0, one_g2_17, one_o19, sysV, d0a, d0b, d0c, d1a, d1b, d1c, d1d, eg2_17a, eg2_17b, eg2_17c, eo19a, eo19b, eo19c]
        have hp23 : H21 <+: H21 ++ [(⟨[.int .i64 0, .slice none 0 0], true, true⟩ : Blk)] := List.prefix_append _ _
        have hzH23 : (H21 ++ [(⟨[.int .i64 0, .slice none 0 0], true, true⟩ : Blk)])[H21.length]? = some ⟨[.int .i64 0, .slice none 0 0], true, true⟩ := by simp
        have hbH23 : (H21 ++ [(⟨[.int .i64 0, .slice none 0 0], true, true⟩ : Blk)]).length = H21.length + 1 := by simp
        generalize H21 ++ [(⟨[.int .i64 0, .slice none 0 0], true, true⟩ : Blk)] = H23 at hp23 hzH23 hbH23 ⊢
        have hqH23 : H23 <+: H23 := List.prefix_refl _
        replace bx0 := bx0.pre hp23
        replace bx1 := bx1.pre hp23
        replace bxg2_17 := bxg2_17.pre hp23
        replace bxo19 := bxo19.pre hp23
        replace hog2_17 := hog2_17.pre hp23
        replace hoo19 := hoo19.pre hp23
        replace qz0 := qz0.trans hp23
        replace hq20 := hq20.trans hp23
        have hlH23 := hp23.length_le
        obtain ⟨d0a, d0b, d0c⟩ := bx0.sys
        obtain ⟨d1a, d1b, d1c, d1d⟩ := bx1.bk
        obtain ⟨eg2_17a, eg2_17b, eg2_17c⟩ := bxg2_17.sys
        obtain ⟨eo19a, eo19b, eo19c⟩ := bxo19.sys
        try simp (maxSteps := 1000000) [go_sem, Bk.val, hbig0, hneg0, hp21, one0, one_g2_17, one_o19, sysV, d0a, d0b, d0c, d1a, d1b, d1c, d1d, eg2_17a, eg2_17b, eg2_17c, eo19a, eo19b, eo19c]
        refine implPut_ok hoo19.read hl0 (b := b1) hn1 _ ?_
        intro H24 wrH24 hp24 horH24
        replace bx0 := bx0.pre hp24
        replace bx1 := bx1.pre hp24
        replace bxg2_17 := bxg2_17.pre hp24
        replace bxo19 := bxo19.pre hp24
        replace hog2_17 := hog2_17.pre hp24
        replace hoo19 := hoo19.pre hp24
        replace qz0 := qz0.trans hp24
        replace hq20 := hq20.trans hp24
        replace hqH23 := hqH23.trans hp24
        have hlH24 := hp24.length_le
        obtain ⟨d0a, d0b, d0c⟩ := bx0.sys
        obtain ⟨d1a, d1b, d1c, d1d⟩ := bx1.bk
        obtain ⟨eg2_17a, eg2_17b, eg2_17c⟩ := bxg2_17.sys
        obtain ⟨eo19a, eo19b, eo19c⟩ := bxo19.sys
        have one_rH24 : wrH24.oneCell' = true := horH24.read.one
        obtain ⟨st20, bh20, bs20, bl20⟩ := boxLate hzH23 hqH23 (cs := [.int .i64 (rPut p0 b0 b1).1.1, wrH24]) rfl (by simp [one_int, one_rH24])
        have hid20 : H20.length ≤ H21.length := by omega
        have hpe20 := ((Same.of_prefix hq20).trans bs20).prefix (by intro j hj e; omega)
        have hke20 := horH24.keep bs20 (by rintro j ⟨h1, h2⟩ e; omega)
        generalize H24.set H21.length ⟨[.int .i64 (rPut p0 b0 b1).1.1, wrH24], true, true⟩ = H25 at *
        try simp (maxSteps := 1000000) [go_sem, Bk.val, hbig0, hneg0, hp21, one0, one_g2_17, one_o19, one_rH24, st20, sysV, d0a, d0b, d0c, d1a, d1b, d1c, d1d, eg2_17a, eg2_17b, eg2_17c, eo19a, eo19b, eo19c]
        refine hQ' ⟨H21.length, H23.length, H24.length, wrH24⟩ _ _ (by simp [upF, Fr.get, Up.refl]) ?_
        exact ⟨hpe20, by simp only; omega, by simp only; omega, bh20, by simp only; omega, by simp only; omega, by simp only; omega, hke20⟩
    · skip
      try simp (maxSteps := 1000000) [go_sem, Bk.val, hbig0, hneg0, one0, one_g2_17, one_o19, sysV, d0a, d0b, d0c, d1a, d1b, d1c, d1d, eg2_17a, eg2_17b, eg2_17c, eo19a, eo19b, eo19c]
      have hp26 : H20 <+: H20 ++ [(⟨[.int .i64 0, .slice none 0 0], true, true⟩ : Blk)] := List.prefix_append _ _
      have hzH26 : (H20 ++ [(⟨[.int .i64 0, .slice none 0 0], true, true⟩ : Blk)])[H20.length]? = some ⟨[.int .i64 0, .slice none 0 0], true, true⟩ := by simp
      have hbH26 : (H20 ++ [(⟨[.int .i64 0, .slice none 0 0], true, true⟩ : Blk)]).length = H20.length + 1 := by simp
      generalize H20 ++ [(⟨[.int .i64 0, .slice none 0 0], true, true⟩ : Blk)] = H26 at hp26 hzH26 hbH26 ⊢
      have hqH26 : H26 <+: H26 := List.prefix_refl _
      replace bx0 := bx0.pre hp26
      replace bx1 := bx1.pre hp26
      replace bxg2_17 := bxg2_17.pre hp26
      replace bxo19 := bxo19.pre hp26
      replace hog2_17 := hog2_17.pre hp26
      replace hoo19 := hoo19.pre hp26
      replace qz0 := qz0.trans hp26
      replace hq20 := hq20.trans hp26
      have hlH26 := hp26.length_le
      obtain ⟨d0a, d0b, d0c⟩ := bx0.sys
      obtain ⟨d1a, d1b, d1c, d1d⟩ := bx1.bk
      obtain ⟨eg2_17a, eg2_17b, eg2_17c⟩ := bxg2_17.sys
      obtain ⟨eo19a, eo19b, eo19c⟩ := bxo19.sys
      try simp (maxSteps := 1000000) [go_sem, Bk.val, hbig0, hneg0, one0, one_g2_17, one_o19, sysV, d0a, d0b, d0c, d1a, d1b, d1c, d1d, eg2_17a, eg2_17b, eg2_17c, eo19a, eo19b, eo19c]
      refine toBlock_ok (b := b1) _ ?_
      intro H27 hp27
      replace bx0 := bx0.pre hp27
      replace bx1 := bx1.pre hp27
      replace bxg2_17 := bxg2_17.pre hp27
      replace bxo19 := bxo19.pre hp27
      replace hog2_17 := hog2_17.pre hp27
      replace hoo19 := hoo19.pre hp27
      replace qz0 := qz0.trans hp27
      replace hq20 := hq20.trans hp27
      replace hqH26 := hqH26.trans hp27
      have hlH27 := hp27.length_le
      obtain ⟨d0a, d0b, d0c⟩ := bx0.sys
      obtain ⟨d1a, d1b, d1c, d1d⟩ := bx1.bk
      obtain ⟨eg2_17a, eg2_17b, eg2_17c⟩ := bxg2_17.sys
      obtain ⟨eo19a, eo19b, eo19c⟩ := bxo19.sys
      try simp (maxSteps := 1000000) [go_sem, Bk.val, hbig0, hneg0, hp27, one0, one_g2_17, one_o19, sysV, d0a, d0b, d0c, d1a, d1b, d1c, d1d, eg2_17a, eg2_17b, eg2_17c, eo19a, eo19b, eo19c]
      refine implPut_ok hoo19.read hl0 (b := b1) hn1 _ ?_
      intro H28 wrH28 hp28 horH28
      replace bx0 := bx0.pre hp28
      replace bx1 := bx1.pre hp28
      replace bxg2_17 := bxg2_17.pre hp28
      replace bxo19 := bxo19.pre hp28
      replace hog2_17 := hog2_17.pre hp28
      replace hoo19 := hoo19.pre hp28
      replace qz0 := qz0.trans hp28
      replace hq20 := hq20.trans hp28
      replace hqH26 := hqH26.trans hp28
      have hlH28 := hp28.length_le
      obtain ⟨d0a, d0b, d0c⟩ := bx0.sys
      obtain ⟨d1a, d1b, d1c, d1d⟩ := bx1.bk
      obtain ⟨eg2_17a, eg2_17b, eg2_17c⟩ := bxg2_17.sys
      obtain ⟨eo19a, eo19b, eo19c⟩ := bxo19.sys
      have one_rH28 : wrH28.oneCell' = true := horH28.read.one
      obtain ⟨st20, bh20, bs20, bl20⟩ := boxLate hzH26 hqH26 (cs := [.int .i64 (rPut p0 b0 b1).1.1, wrH28]) rfl (by simp [one_int, one_rH28])
      have hid20 : H20.length ≤ H20.length := by omega
      have hpe20 := ((Same.of_prefix hq20).trans bs20).prefix (by intro j hj e; omega)
      have hke20 := horH28.keep bs20 (by rintro j ⟨h1, h2⟩ e; omega)
      generalize H28.set H20.length ⟨[.int .i64 (rPut p0 b0 b1).1.1, wrH28], true, true⟩ = H29 at *
      try simp (maxSteps := 1000000) [go_sem, Bk.val, hbig0, hneg0, hp27, one0, one_g2_17, one_o19, one_rH28, st20, sysV, d0a, d0b, d0c, d1a, d1b, d1c, d1d, eg2_17a, eg2_17b, eg2_17c, eo19a, eo19b, eo19c]
      refine hQ' ⟨H20.length, H27.length, H28.length, wrH28⟩ _ _ (by simp [upF, Fr.get, Up.refl]) ?_
      exact ⟨hpe20, by simp only; omega, by simp only; omega, bh20, by simp only; omega, by simp only; omega, by simp only; omega, hke20⟩
  rintro ⟨idg20_29, log20_29, hig20_29, wg20_29⟩ H30 ⟨hp30, h1g20_29, h2g20_29, bxg20_29, h3g20_29, h4g20_29, h5g20_29, hog20_29⟩
  simp only at h1g20_29 h2g20_29 bxg20_29 h3g20_29 h4g20_29 h5g20_29 hog20_29
  replace bx0 := bx0.pre hp30
  replace bx1 := bx1.pre hp30
  replace bxg2_17 := bxg2_17.pre hp30
  replace bxo19 := bxo19.pre hp30
  replace hog2_17 := hog2_17.pre hp30
  replace hoo19 := hoo19.pre hp30
  replace qz0 := qz0.trans hp30
  have hlH30 := hp30.length_le
  obtain ⟨d0a, d0b, d0c⟩ := bx0.sys
  obtain ⟨d1a, d1b, d1c, d1d⟩ := bx1.bk
  obtain ⟨eg2_17a, eg2_17b, eg2_17c⟩ := bxg2_17.sys
  obtain ⟨eo19a, eo19b, eo19c⟩ := bxo19.sys
  have one_g20_29 : wg20_29.oneCell' = true := hog20_29.read.one
  obtain ⟨eg20_29a, eg20_29b, eg20_29c⟩ := bxg20_29.sys
  try simp (maxSteps := 1000000) [go_sem, Bk.val, hbig0, hneg0, one0, one_g20_29, one_g2_17, one_o19, sysV, d0a, d0b, d0c, d1a, d1b, d1c, d1d, eg2_17a, eg2_17b, eg2_17c, eo19a, eo19b, eo19c, eg20_29a, eg20_29b, eg20_29c]
  refine eqSystem_ok hog20_29.read hog2_17.read _ ?_
  intro H31 hp31
  replace bx0 := bx0.pre hp31
  replace bx1 := bx1.pre hp31
  replace bxg2_17 := bxg2_17.pre hp31
  replace bxo19 := bxo19.pre hp31
  replace bxg20_29 := bxg20_29.pre hp31
  replace hog2_17 := hog2_17.pre hp31
  replace hoo19 := hoo19.pre hp31
  replace hog20_29 := hog20_29.pre hp31
  replace qz0 := qz0.trans hp31
  have hlH31 := hp31.length_le
  obtain ⟨d0a, d0b, d0c⟩ := bx0.sys
  obtain ⟨d1a, d1b, d1c, d1d⟩ := bx1.bk
  obtain ⟨eg2_17a, eg2_17b, eg2_17c⟩ := bxg2_17.sys
  obtain ⟨eo19a, eo19b, eo19c⟩ := bxo19.sys
  obtain ⟨eg20_29a, eg20_29b, eg20_29c⟩ := bxg20_29.sys
  try simp (maxSteps := 1000000) [go_sem, Bk.val, hbig0, hneg0, one0, one_g20_29, one_g2_17, one_o19, sysV, d0a, d0b, d0c, d1a, d1b, d1c, d1d, eg2_17a, eg2_17b, eg2_17c, eo19a, eo19b, eo19c, eg20_29a, eg20_29b, eg20_29c]
  refine AWp.draw mixed [(0, false), (1, false), (2, true), (3, false), (4, false)] (by kernel_rfl) ?_
  try simp (maxSteps := 1000000) [go_sem, Bk.val, hbig0, hneg0, one0, one_g20_29, one_g2_17, one_o19, sysV, d0a, d0b, d0c, d1a, d1b, d1c, d1d, eg2_17a, eg2_17b, eg2_17c, eo19a, eo19b, eo19c, eg20_29a, eg20_29b, eg20_29c]
  refine toSys_ok (hq0.pre qz0) hl0 _ ?_
  intro H32 wo32 hp32 hoo32
  replace bx0 := bx0.pre hp32
  replace bx1 := bx1.pre hp32
  replace bxg2_17 := bxg2_17.pre hp32
  replace bxo19 := bxo19.pre hp32
  replace bxg20_29 := bxg20_29.pre hp32
  replace hog2_17 := hog2_17.pre hp32
  replace hoo19 := hoo19.pre hp32
  replace hog20_29 := hog20_29.pre hp32
  replace qz0 := qz0.trans hp32
  have hlH32 := hp32.length_le
  obtain ⟨d0a, d0b, d0c⟩ := bx0.sys
  obtain ⟨d1a, d1b, d1c, d1d⟩ := bx1.bk
  obtain ⟨eg2_17a, eg2_17b, eg2_17c⟩ := bxg2_17.sys
  obtain ⟨eo19a, eo19b, eo19c⟩ := bxo19.sys
  obtain ⟨eg20_29a, eg20_29b, eg20_29c⟩ := bxg20_29.sys
  try simp (maxSteps := 1000000) [go_sem, Bk.val, hbig0, hneg0, hp32, one0, one_g20_29, one_g2_17, one_o19, sysV, d0a, d0b, d0c, d1a, d1b, d1c, d1d, eg2_17a, eg2_17b, eg2_17c, eo19a, eo19b, eo19c, eg20_29a, eg20_29b, eg20_29c]
  refine eqSystem_ok hoo19.read hoo32.read _ ?_
  intro H33 hp33
  replace bx0 := bx0.pre hp33
  replace bx1 := bx1.pre hp33
  replace bxg2_17 := bxg2_17.pre hp33
  replace bxo19 := bxo19.pre hp33
  replace bxg20_29 := bxg20_29.pre hp33
  replace hog2_17 := hog2_17.pre hp33
  replace hoo19 := hoo19.pre hp33
  replace hog20_29 := hog20_29.pre hp33
  replace hoo32 := hoo32.pre hp33
  replace qz0 := qz0.trans hp33
  have hlH33 := hp33.length_le
  obtain ⟨d0a, d0b, d0c⟩ := bx0.sys
  obtain ⟨d1a, d1b, d1c, d1d⟩ := bx1.bk
  obtain ⟨eg2_17a, eg2_17b, eg2_17c⟩ := bxg2_17.sys
  obtain ⟨eo19a, eo19b, eo19c⟩ := bxo19.sys
  obtain ⟨eg20_29a, eg20_29b, eg20_29c⟩ := bxg20_29.sys
  try simp (maxSteps := 1000000) [go_sem, Bk.val, hbig0, hneg0, hp32, one0, one_g20_29, one_g2_17, one_o19, sysV, d0a, d0b, d0c, d1a, d1b, d1c, d1d, eg2_17a, eg2_17b, eg2_17c, eo19a, eo19b, eo19c, eg20_29a, eg20_29b, eg20_29c]
  refine markSys_ok hoo19 (by omega) (by omega) _ ?_
  intro H34 hs34 mk34
  replace bx0 := bx0.keepS hs34 (by rintro ⟨h1, h2⟩; omega)
  replace bx1 := bx1.keepS hs34 (by rintro ⟨h1, h2⟩; omega)
  replace bxg2_17 := bxg2_17.keepS hs34 (by rintro ⟨h1, h2⟩; omega)
  replace bxo19 := bxo19.keepS hs34 (by rintro ⟨h1, h2⟩; omega)
  replace bxg20_29 := bxg20_29.keepS hs34 (by rintro ⟨h1, h2⟩; omega)
  replace hog2_17 := hog2_17.keep hs34 (by rintro j ⟨h1, h2⟩ ⟨h3, h4⟩; omega)
  replace hog20_29 := hog20_29.keep hs34 (by rintro j ⟨h1, h2⟩ ⟨h3, h4⟩; omega)
  replace hoo32 := hoo32.keep hs34 (by rintro j ⟨h1, h2⟩ ⟨h3, h4⟩; omega)
  replace qz0 := ((Same.of_prefix qz0).trans hs34).prefix (by rintro j hj ⟨h1, h2⟩; omega)
  have hlH34 := hs34.1
  obtain ⟨d0a, d0b, d0c⟩ := bx0.sys
  obtain ⟨d1a, d1b, d1c, d1d⟩ := bx1.bk
  obtain ⟨eg2_17a, eg2_17b, eg2_17c⟩ := bxg2_17.sys
  obtain ⟨eo19a, eo19b, eo19c⟩ := bxo19.sys
  obtain ⟨eg20_29a, eg20_29b, eg20_29c⟩ := bxg20_29.sys
  have hng34 : decide ((1 : Int) + ((b0).length * 3 : Nat) < 0) = false := by simp only [decide_eq_false_iff_not]; omega
  try simp only [Int.natCast_mul, Int.cast_ofNat_Int] at hng34
  try simp (maxSteps := 1000000) [go_sem, Bk.val, hbig0, hneg0, hng34, hp32, one0, one_g20_29, one_g2_17, one_o19, sysV, d0a, d0b, d0c, d1a, d1b, d1c, d1d, eg2_17a, eg2_17b, eg2_17c, eo19a, eo19b, eo19c, eg20_29a, eg20_29b, eg20_29c]
  refine eqSystem_ok hog20_29.read hog2_17.read _ ?_
  intro H35 hp35
  replace bx0 := bx0.pre hp35
  replace bx1 := bx1.pre hp35
  replace bxg2_17 := bxg2_17.pre hp35
  replace bxo19 := bxo19.pre hp35
  replace bxg20_29 := bxg20_29.pre hp35
  replace hog2_17 := hog2_17.pre hp35
  replace mk34 := mk34.pre hp35
  replace hog20_29 := hog20_29.pre hp35
  replace hoo32 := hoo32.pre hp35
  replace qz0 := qz0.trans hp35
  have hlH35 := hp35.length_le
  obtain ⟨d0a, d0b, d0c⟩ := bx0.sys
  obtain ⟨d1a, d1b, d1c, d1d⟩ := bx1.bk
  obtain ⟨eg2_17a, eg2_17b, eg2_17c⟩ := bxg2_17.sys
  obtain ⟨eo19a, eo19b, eo19c⟩ := bxo19.sys
  obtain ⟨eg20_29a, eg20_29b, eg20_29c⟩ := bxg20_29.sys
  try simp (maxSteps := 1000000) [go_sem, Bk.val, hbig0, hneg0, hng34, hp32, one0, one_g20_29, one_g2_17, one_o19, sysV, d0a, d0b, d0c, d1a, d1b, d1c, d1d, eg2_17a, eg2_17b, eg2_17c, eo19a, eo19b, eo19c, eg20_29a, eg20_29b, eg20_29c]
  refine markSys_ok hog20_29 (by omega) (by omega) _ ?_
  intro H36 hs36 mk36
  replace bx0 := bx0.keepS hs36 (by rintro ⟨h1, h2⟩; omega)
  replace bx1 := bx1.keepS hs36 (by rintro ⟨h1, h2⟩; omega)
  replace bxg2_17 := bxg2_17.keepS hs36 (by rintro ⟨h1, h2⟩; omega)
  replace bxo19 := bxo19.keepS hs36 (by rintro ⟨h1, h2⟩; omega)
  replace bxg20_29 := bxg20_29.keepS hs36 (by rintro ⟨h1, h2⟩; omega)
  replace hog2_17 := hog2_17.keep hs36 (by rintro j ⟨h1, h2⟩ ⟨h3, h4⟩; omega)
  replace mk34 := mk34.keep hs36 (by rintro j ⟨h1, h2⟩ ⟨h3, h4⟩; omega)
  replace hoo32 := hoo32.keep hs36 (by rintro j ⟨h1, h2⟩ ⟨h3, h4⟩; omega)
  replace qz0 := ((Same.of_prefix qz0).trans hs36).prefix (by rintro j hj ⟨h1, h2⟩; omega)
  have hlH36 := hs36.1
  obtain ⟨d0a, d0b, d0c⟩ := bx0.sys
  obtain ⟨d1a, d1b, d1c, d1d⟩ := bx1.bk
  obtain ⟨eg2_17a, eg2_17b, eg2_17c⟩ := bxg2_17.sys
  obtain ⟨eo19a, eo19b, eo19c⟩ := bxo19.sys
  obtain ⟨eg20_29a, eg20_29b, eg20_29c⟩ := bxg20_29.sys
  have hng36 : decide ((1 : Int) + (((rPut p0 b0 b1).1.2).length * 3 : Nat) < 0) = false := by simp only [decide_eq_false_iff_not]; omega
  try simp only [Int.natCast_mul, Int.cast_ofNat_Int] at hng36
  try simp (maxSteps := 1000000) [go_sem, Bk.val, hbig0, hneg0, hng34, hng36, hp32, one0, one_g20_29, one_g2_17, one_o19, sysV, d0a, d0b, d0c, d1a, d1b, d1c, d1d, eg2_17a, eg2_17b, eg2_17c, eo19a, eo19b, eo19c, eg20_29a, eg20_29b, eg20_29c]
  refine heldSys_ok mk36 (by omega) (by omega) _ ?_
  intro H37 hp37
  replace bx0 := bx0.pre hp37
  replace bx1 := bx1.pre hp37
  replace bxg2_17 := bxg2_17.pre hp37
  replace bxo19 := bxo19.pre hp37
  replace bxg20_29 := bxg20_29.pre hp37
  replace hog2_17 := hog2_17.pre hp37
  replace mk34 := mk34.pre hp37
  replace mk36 := mk36.pre hp37
  replace hoo32 := hoo32.pre hp37
  replace qz0 := qz0.trans hp37
  have hlH37 := hp37.length_le
  obtain ⟨d0a, d0b, d0c⟩ := bx0.sys
  obtain ⟨d1a, d1b, d1c, d1d⟩ := bx1.bk
  obtain ⟨eg2_17a, eg2_17b, eg2_17c⟩ := bxg2_17.sys
  obtain ⟨eo19a, eo19b, eo19c⟩ := bxo19.sys
  obtain ⟨eg20_29a, eg20_29b, eg20_29c⟩ := bxg20_29.sys
  try simp (maxSteps := 1000000) [go_sem, Bk.val, hbig0, hneg0, hng34, hng36, hp32, one0, one_g20_29, one_g2_17, one_o19, sysV, d0a, d0b, d0c, d1a, d1b, d1c, d1d, eg2_17a, eg2_17b, eg2_17c, eo19a, eo19b, eo19c, eg20_29a, eg20_29b, eg20_29c]
  refine AWp.regCut (St := Nat × Nat × Nat × Value) (fun s => [(14, .pointer (some ⟨s.1, 0, none⟩)), (15, .int .i64 ((rPut p0 b0 b1).2))])
    (fun s H' => H37 <+: H' ∧ H37.length ≤ s.1 ∧ s.1 < H'.length ∧ Holds H' s.1 [.int .i64 (rPut p0 b0 b1).1.1, s.2.2.2] ∧ H37.length ≤ s.2.1 ∧ s.2.2.1 ≤ H'.length ∧ (s.1 < s.2.1 ∨ s.2.2.1 ≤ s.1) ∧ BlocksIn s.2.1 s.2.2.1 H' s.2.2.2 ((rPut p0 b0 b1).1.2)) ?_ ?_
  · intro Q' hQ'
    have hq37 : H37 <+: H37 := List.prefix_refl _
    refine AWp.drawF mixed [8] [(0, false), (2, false), (1, true), (3, false), (4, false), (5, false), (6, false), (7, false), (8, true), (9, false), (10, false)] (.one 0 false (.one 2 false (.two 1 true (.two 3 false (.two 4 false (.one 5 false (.one 6 false (.one 7 false (.one 8 true (.one 9 false (.one 10 false .nil)))))) 8 (.one 4 false (.one 5 false (.one 6 false (.one 7 false (.one 9 false (.one 10 false .nil))))))) 8 (.one 3 false (.one 4 false (.one 5 false (.one 6 false (.one 7 false (.one 9 false (.one 10 false .nil)))))))) 8 (.one 1 true (.one 3 false (.one 4 false (.one 5 false (.one 6 false (.one 7 false (.one 9 false (.one 10 false .nil))))))))))) (by kernel_rfl) ?_
    try simp (maxSteps := 1000000) [go_sem, Bk.val, hbig0, hneg0, hng34, hng36, hp32, one0, one_g20_29, one_g2_17, one_o19, sysV, d0a, d0b, d0c, d1a, d1b, d1c, d1d, eg2_17a, eg2_17b, eg2_17c, eo19a, eo19b, eo19c, eg20_29a, eg20_29b, eg20_29c]
    refine vT_two ?_ ?_
    · skip
      try simp (maxSteps := 1000000) [go_sem, Bk.val, hbig0, hneg0, hng34, hng36, hp32, one0, one_g20_29, one_g2_17, one_o19, sysV, d0a, d0b, d0c, d1a, d1b, d1c, d1d, eg2_17a, eg2_17b, eg2_17c, eo19a, eo19b, eo19c, eg20_29a, eg20_29b, eg20_29c]
      refine toSys_ok (hq0.pre qz0) hl0 _ ?_
      intro H38 wo38 hp38 hoo38
      replace bx0 := bx0.pre hp38
      replace bx1 := bx1.pre hp38
      replace bxg2_17 := bxg2_17.pre hp38
      replace bxo19 := bxo19.pre hp38
      replace bxg20_29 := bxg20_29.pre hp38
      replace hog2_17 := hog2_17.pre hp38
      replace mk34 := mk34.pre hp38
      replace mk36 := mk36.pre hp38
      replace hoo32 := hoo32.pre hp38
      replace qz0 := qz0.trans hp38
      replace hq37 := hq37.trans hp38
      have hlH38 := hp38.length_le
      obtain ⟨d0a, d0b, d0c⟩ := bx0.sys
      obtain ⟨d1a, d1b, d1c, d1d⟩ := bx1.bk
      obtain ⟨eg2_17a, eg2_17b, eg2_17c⟩ := bxg2_17.sys
      obtain ⟨eo19a, eo19b, eo19c⟩ := bxo19.sys
      obtain ⟨eg20_29a, eg20_29b, eg20_29c⟩ := bxg20_29.sys
      try simp (maxSteps := 1000000) [go_sem, Bk.val, hbig0, hneg0, hng34, hng36, hp32, hp38, one0, one_g20_29, one_g2_17, one_o19, sysV, d0a, d0b, d0c, d1a, d1b, d1c, d1d, eg2_17a, eg2_17b, eg2_17c, eo19a, eo19b, eo19c, eg20_29a, eg20_29b, eg20_29c]
      refine vT_two ?_ ?_
      · skip
        try simp (maxSteps := 1000000) [go_sem, Bk.val, hbig0, hneg0, hng34, hng36, hp32, hp38, one0, one_g20_29, one_g2_17, one_o19, sysV, d0a, d0b, d0c, d1a, d1b, d1c, d1d, eg2_17a, eg2_17b, eg2_17c, eo19a, eo19b, eo19c, eg20_29a, eg20_29b, eg20_29c]
        refine toBlock_ok (b := b1) _ ?_
        intro H39 hp39
        replace bx0 := bx0.pre hp39
        replace bx1 := bx1.pre hp39
        replace bxg2_17 := bxg2_17.pre hp39
        replace bxo19 := bxo19.pre hp39
        replace bxg20_29 := bxg20_29.pre hp39
        replace hog2_17 := hog2_17.pre hp39
        replace mk34 := mk34.pre hp39
        replace mk36 := mk36.pre hp39
        replace hoo32 := hoo32.pre hp39
        replace hoo38 := hoo38.pre hp39
        replace qz0 := qz0.trans hp39
        replace hq37 := hq37.trans hp39
        have hlH39 := hp39.length_le
        obtain ⟨d0a, d0b, d0c⟩ := bx0.sys
        obtain ⟨d1a, d1b, d1c, d1d⟩ := bx1.bk
        obtain ⟨eg2_17a, eg2_17b, eg2_17c⟩ := bxg2_17.sys
        obtain ⟨eo19a, eo19b, eo19c⟩ := bxo19.sys
        obtain ⟨eg20_29a, eg20_29b, eg20_29c⟩ := bxg20_29.sys
        try simp (maxSteps := 1000000) [go_sem, Bk.val, hbig0, hneg0, hng34, hng36, hp32, hp38, one0, one_g20_29, one_g2_17, one_o19, sysV, d0a, d0b, d0c, d1a, d1b, d1c, d1d, eg2_17a, eg2_17b, eg2_17c, eo19a, eo19b, eo19c, eg20_29a, eg20_29b, eg20_29c]
        refine vT_two ?_ ?_
        · skip
          try simp (maxSteps := 1000000) [go_sem, Bk.val, hbig0, hneg0, hng34, hng36, hp32, hp38, one0, one_g20_29, one_g2_17, one_o19, sysV, d0a, d0b, d0c, d1a, d1b, d1c, d1d, eg2_17a, eg2_17b, eg2_17c, eo19a, eo19b, eo19c, eg20_29a, eg20_29b, eg20_29c]
          refine implPut_ok hoo38.read hl0 (b := b1) hn1 _ ?_
          intro H40 wrH40 hp40 horH40
          replace bx0 := bx0.pre hp40
          replace bx1 := bx1.pre hp40
          replace bxg2_17 := bxg2_17.pre hp40
          replace bxo19 := bxo19.pre hp40
          replace bxg20_29 := bxg20_29.pre hp40
          replace hog2_17 := hog2_17.pre hp40
          replace mk34 := mk34.pre hp40
          replace mk36 := mk36.pre hp40
          replace hoo32 := hoo32.pre hp40
          replace hoo38 := hoo38.pre hp40
          replace qz0 := qz0.trans hp40
          replace hq37 := hq37.trans hp40
          have hlH40 := hp40.length_le
          obtain ⟨d0a, d0b, d0c⟩ := bx0.sys
          obtain ⟨d1a, d1b, d1c, d1d⟩ := bx1.bk
          obtain ⟨eg2_17a, eg2_17b, eg2_17c⟩ := bxg2_17.sys
          obtain ⟨eo19a, eo19b, eo19c⟩ := bxo19.sys
          obtain ⟨eg20_29a, eg20_29b, eg20_29c⟩ := bxg20_29.sys
          have one_rH40 : wrH40.oneCell' = true := horH40.read.one
          try simp (maxSteps := 1000000) [go_sem, Bk.val, hbig0, hneg0, hng34, hng36, hp32, hp38, one0, one_g20_29, one_g2_17, one_o19, one_rH40, sysV, d0a, d0b, d0c, d1a, d1b, d1c, d1d, eg2_17a, eg2_17b, eg2_17c, eo19a, eo19b, eo19c, eg20_29a, eg20_29b, eg20_29c]
          refine hQ' ⟨H40.length, H39.length, H40.length, wrH40⟩ _ _ (by simp [upF, Fr.get, Up.refl]) ?_
          exact ⟨hq37.trans (List.prefix_append _ _), by simp only; omega, by simp, Holds.last H40 [.int .i64 (rPut p0 b0 b1).1.1, wrH40], by simp only; omega, by simp only [List.length_append, List.length_cons, List.length_nil]; omega, by simp only; omega, horH40.pre (List.prefix_append _ _)⟩
        · skip
          try simp (maxSteps := 1000000) [go_sem, Bk.val, hbig0, hneg0, hng34, hng36, hp32, hp38, one0, one_g20_29, one_g2_17, one_o19, sysV, d0a, d0b, d0c, d1a, d1b, d1c, d1d, eg2_17a, eg2_17b, eg2_17c, eo19a, eo19b, eo19c, eg20_29a, eg20_29b, eg20_29c]
          have hp41 : H39 <+: H39 ++ [(⟨[.int .i64 0, .slice none 0 0], true, true⟩ : Blk)] := List.prefix_append _ _
          have hzH41 : (H39 ++ [(⟨[.int .i64 0, .slice none 0 0], true, true⟩ : Blk)])[H39.length]? = some ⟨[.int .i64 0, .slice none 0 0], true, true⟩ := by simp
          have hbH41 : (H39 ++ [(⟨[.int .i64 0, .slice none 0 0], true, true⟩ : Blk)]).length = H39.length + 1 := by simp
          generalize H39 ++ [(⟨[.int .i64 0, .slice none 0 0], true, true⟩ : Blk)] = H41 at hp41 hzH41 hbH41 ⊢
          have hqH41 : H41 <+: H41 := List.prefix_refl _
          replace bx0 := bx0.pre hp41
          replace bx1 := bx1.pre hp41
          replace bxg2_17 := bxg2_17.pre hp41
          replace bxo19 := bxo19.pre hp41
          replace bxg20_29 := bxg20_29.pre hp41
          replace hog2_17 := hog2_17.pre hp41
          replace mk34 := mk34.pre hp41
          replace mk36 := mk36.pre hp41
          replace hoo32 := hoo32.pre hp41
          replace hoo38 := hoo38.pre hp41
          replace qz0 := qz0.trans hp41
          replace hq37 := hq37.trans hp41
          have hlH41 := hp41.length_le
          obtain ⟨d0a, d0b, d0c⟩ := bx0.sys
          obtain ⟨d1a, d1b, d1c, d1d⟩ := bx1.bk
          obtain ⟨eg2_17a, eg2_17b, eg2_17c⟩ := bxg2_17.sys
          obtain ⟨eo19a, eo19b, eo19c⟩ := bxo19.sys
          obtain ⟨eg20_29a, eg20_29b, eg20_29c⟩ := bxg20_29.sys
          try simp (maxSteps := 1000000) [go_sem, Bk.val, hbig0, hneg0, hng34, hng36, hp32, hp38, one0, one_g20_29, one_g2_17, one_o19, sysV, d0a, d0b, d0c, d1a, d1b, d1c, d1d, eg2_17a, eg2_17b, eg2_17c, eo19a, eo19b, eo19c, eg20_29a, eg20_29b, eg20_29c]
          refine implPut_ok hoo38.read hl0 (b := b1) hn1 _ ?_
          intro H42 wrH42 hp42 horH42
          replace bx0 := bx0.pre hp42
          replace bx1 := bx1.pre hp42
          replace bxg2_17 := bxg2_17.pre hp42
          replace bxo19 := bxo19.pre hp42
          replace bxg20_29 := bxg20_29.pre hp42
          replace hog2_17 := hog2_17.pre hp42
          replace mk34 := mk34.pre hp42
          replace mk36 := mk36.pre hp42
          replace hoo32 := hoo32.pre hp42
          replace hoo38 := hoo38.pre hp42
          replace qz0 := qz0.trans hp42
          replace hq37 := hq37.trans hp42
          replace hqH41 := hqH41.trans hp42
          have hlH42 := hp42.length_le
          obtain ⟨d0a, d0b, d0c⟩ := bx0.sys
          obtain ⟨d1a, d1b, d1c, d1d⟩ := bx1.bk
          obtain ⟨eg2_17a, eg2_17b, eg2_17c⟩ := bxg2_17.sys
          obtain ⟨eo19a, eo19b, eo19c⟩ := bxo19.sys
          obtain ⟨eg20_29a, eg20_29b, eg20_29c⟩ := bxg20_29.sys
          have one_rH42 : wrH42.oneCell' = true := horH42.read.one
          obtain ⟨st37, bh37, bs37, bl37⟩ := boxLate hzH41 hqH41 (cs := [.int .i64 (rPut p0 b0 b1).1.1, wrH42]) rfl (by simp [one_int, one_rH42])
          have hid37 : H37.length ≤ H39.length := by omega
          have hpe37 := ((Same.of_prefix hq37).trans bs37).prefix (by intro j hj e; omega)
          have hke37 := horH42.keep bs37 (by rintro j ⟨h1, h2⟩ e; omega)
          generalize H42.set H39.length ⟨[.int .i64 (rPut p0 b0 b1).1.1, wrH42], true, true⟩ = H43 at *
          try simp (maxSteps := 1000000) [go_sem, Bk.val, hbig0, hneg0, hng34, hng36, hp32, hp38, one0, one_g20_29, one_g2_17, one_o19, one_rH42, st37, sysV, d0a, d0b, d0c, d1a, d1b, d1c, d1d, eg2_17a, eg2_17b, eg2_17c, eo19a, eo19b, eo19c, eg20_29a, eg20_29b, eg20_29c]
          refine hQ' ⟨H39.length, H41.length, H42.length, wrH42⟩ _ _ (by simp [upF, Fr.get, Up.refl]) ?_
          exact ⟨hpe37, by simp only; omega, by simp only; omega, bh37, by simp only; omega, by simp only; omega, by simp only; omega, hke37⟩
      · skip
        try simp (maxSteps := 1000000) [go_sem, Bk.val, hbig0, hneg0, hng34, hng36, hp32, hp38, one0, one_g20_29, one_g2_17, one_o19, sysV, d0a, d0b, d0c, d1a, d1b, d1c, d1d, eg2_17a, eg2_17b, eg2_17c, eo19a, eo19b, eo19c, eg20_29a, eg20_29b, eg20_29c]
        have hp44 : H38 <+: H38 ++ [(⟨[.int .i64 0, .slice none 0 0], true, true⟩ : Blk)] := List.prefix_append _ _
        have hzH44 : (H38 ++ [(⟨[.int .i64 0, .slice none 0 0], true, true⟩ : Blk)])[H38.length]? = some ⟨[.int .i64 0, .slice none 0 0], true, true⟩ := by simp
        have hbH44 : (H38 ++ [(⟨[.int .i64 0, .slice none 0 0], true, true⟩ : Blk)]).length = H38.length + 1 := by simp
        generalize H38 ++ [(⟨[.int .i64 0, .slice none 0 0], true, true⟩ : Blk)] = H44 at hp44 hzH44 hbH44 ⊢
        have hqH44 : H44 <+: H44 := List.prefix_refl _
        replace bx0 := bx0.pre hp44
        replace bx1 := bx1.pre hp44
        replace bxg2_17 := bxg2_17.pre hp44
        replace bxo19 := bxo19.pre hp44
        replace bxg20_29 := bxg20_29.pre hp44
        replace hog2_17 := hog2_17.pre hp44
        replace mk34 := mk34.pre hp44
        replace mk36 := mk36.pre hp44
        replace hoo32 := hoo32.pre hp44
        replace hoo38 := hoo38.pre hp44
        replace qz0 := qz0.trans hp44
        replace hq37 := hq37.trans hp44
        have hlH44 := hp44.length_le
        obtain ⟨d0a, d0b, d0c⟩ := bx0.sys
        obtain ⟨d1a, d1b, d1c, d1d⟩ := bx1.bk
        obtain ⟨eg2_17a, eg2_17b, eg2_17c⟩ := bxg2_17.sys
        obtain ⟨eo19a, eo19b, eo19c⟩ := bxo19.sys
        obtain ⟨eg20_29a, eg20_29b, eg20_29c⟩ := bxg20_29.sys
        try simp (maxSteps := 1000000) [go_sem, Bk.val, hbig0, hneg0, hng34, hng36, hp32, hp38, one0, one_g20_29, one_g2_17, one_o19, sysV, d0a, d0b, d0c, d1a, d1b, d1c, d1d, eg2_17a, eg2_17b, eg2_17c, eo19a, eo19b, eo19c, eg20_29a, eg20_29b, eg20_29c]
        refine toBlock_ok (b := b1) _ ?_
        intro H45 hp45
        replace bx0 := bx0.pre hp45
        replace bx1 := bx1.pre hp45
        replace bxg2_17 := bxg2_17.pre hp45
        replace bxo19 := bxo19.pre hp45
        replace bxg20_29 := bxg20_29.pre hp45
        replace hog2_17 := hog2_17.pre hp45
        replace mk34 := mk34.pre hp45
        replace mk36 := mk36.pre hp45
        replace hoo32 := hoo32.pre hp45
        replace hoo38 := hoo38.pre hp45
        replace qz0 := qz0.trans hp45
        replace hq37 := hq37.trans hp45
        replace hqH44 := hqH44.trans hp45
        have hlH45 := hp45.length_le
        obtain ⟨d0a, d0b, d0c⟩ := bx0.sys
        obtain ⟨d1a, d1b, d1c, d1d⟩ := bx1.bk
        obtain ⟨eg2_17a, eg2_17b, eg2_17c⟩ := bxg2_17.sys
        obtain ⟨eo19a, eo19b, eo19c⟩ := bxo19.sys
        obtain ⟨eg20_29a, eg20_29b, eg20_29c⟩ := bxg20_29.sys
        try simp (maxSteps := 1000000) [go_sem, Bk.val, hbig0, hneg0, hng34, hng36, hp32, hp38, one0, one_g20_29, one_g2_17, one_o19, sysV, d0a, d0b, d0c, d1a, d1b, d1c, d1d, eg2_17a, eg2_17b, eg2_17c, eo19a, eo19b, eo19c, eg20_29a, eg20_29b, eg20_29c]
        refine implPut_ok hoo38.read hl0 (b := b1) hn1 _ ?_
        intro H46 wrH46 hp46 horH46
        replace bx0 := bx0.pre hp46
        replace bx1 := bx1.pre hp46
        replace bxg2_17 := bxg2_17.pre hp46
        replace bxo19 := bxo19.pre hp46
        replace bxg20_29 := bxg20_29.pre hp46
        replace hog2_17 := hog2_17.pre hp46
        replace mk34 := mk34.pre hp46
        replace mk36 := mk36.pre hp46
        replace hoo32 := hoo32.pre hp46
        replace hoo38 := hoo38.pre hp46
        replace qz0 := qz0.trans hp46
        replace hq37 := hq37.trans hp46
        replace hqH44 := hqH44.trans hp46
        have hlH46 := hp46.length_le
        obtain ⟨d0a, d0b, d0c⟩ := bx0.sys
        obtain ⟨d1a, d1b, d1c, d1d⟩ := bx1.bk
        obtain ⟨eg2_17a, eg2_17b, eg2_17c⟩ := bxg2_17.sys
        obtain ⟨eo19a, eo19b, eo19c⟩ := bxo19.sys
        obtain ⟨eg20_29a, eg20_29b, eg20_29c⟩ := bxg20_29.sys
        have one_rH46 : wrH46.oneCell' = true := horH46.read.one
        obtain ⟨st37, bh37, bs37, bl37⟩ := boxLate hzH44 hqH44 (cs := [.int .i64 (rPut p0 b0 b1).1.1, wrH46]) rfl (by simp [one_int, one_rH46])
        have hid37 : H37.length ≤ H38.length := by omega
        have hpe37 := ((Same.of_prefix hq37).trans bs37).prefix (by intro j hj e; omega)
        have hke37 := horH46.keep bs37 (by rintro j ⟨h1, h2⟩ e; omega)
        generalize H46.set H38.length ⟨[.int .i64 (rPut p0 b0 b1).1.1, wrH46], true, true⟩ = H47 at *
        try simp (maxSteps := 1000000) [go_sem, Bk.val, hbig0, hneg0, hng34, hng36, hp32, hp38, one0, one_g20_29, one_g2_17, one_o19, one_rH46, st37, sysV, d0a, d0b, d0c, d1a, d1b, d1c, d1d, eg2_17a, eg2_17b, eg2_17c, eo19a, eo19b, eo19c, eg20_29a, eg20_29b, eg20_29c]
        refine hQ' ⟨H38.length, H45.length, H46.length, wrH46⟩ _ _ (by simp [upF, Fr.get, Up.refl]) ?_
        exact ⟨hpe37, by simp only; omega, by simp only; omega, bh37, by simp only; omega, by simp only; omega, by simp only; omega, hke37⟩
    · skip
      try simp (maxSteps := 1000000) [go_sem, Bk.val, hbig0, hneg0, hng34, hng36, hp32, one0, one_g20_29, one_g2_17, one_o19, sysV, d0a, d0b, d0c, d1a, d1b, d1c, d1d, eg2_17a, eg2_17b, eg2_17c, eo19a, eo19b, eo19c, eg20_29a, eg20_29b, eg20_29c]
      have hp48 : H37 <+: H37 ++ [(⟨[.int .i64 0, .slice none 0 0], true, true⟩ : Blk)] := List.prefix_append _ _
      have hzH48 : (H37 ++ [(⟨[.int .i64 0, .slice none 0 0], true, true⟩ : Blk)])[H37.length]? = some ⟨[.int .i64 0, .slice none 0 0], true, true⟩ := by simp
      have hbH48 : (H37 ++ [(⟨[.int .i64 0, .slice none 0 0], true, true⟩ : Blk)]).length = H37.length + 1 := by simp
      generalize H37 ++ [(⟨[.int .i64 0, .slice none 0 0], true, true⟩ : Blk)] = H48 at hp48 hzH48 hbH48 ⊢
      have hqH48 : H48 <+: H48 := List.prefix_refl _
      replace bx0 := bx0.pre hp48
      replace bx1 := bx1.pre hp48
      replace bxg2_17 := bxg2_17.pre hp48
      replace bxo19 := bxo19.pre hp48
      replace bxg20_29 := bxg20_29.pre hp48
      replace hog2_17 := hog2_17.pre hp48
      replace mk34 := mk34.pre hp48
      replace mk36 := mk36.pre hp48
      replace hoo32 := hoo32.pre hp48
      replace qz0 := qz0.trans hp48
      replace hq37 := hq37.trans hp48
      have hlH48 := hp48.length_le
      obtain ⟨d0a, d0b, d0c⟩ := bx0.sys
      obtain ⟨d1a, d1b, d1c, d1d⟩ := bx1.bk
      obtain ⟨eg2_17a, eg2_17b, eg2_17c⟩ := bxg2_17.sys
      obtain ⟨eo19a, eo19b, eo19c⟩ := bxo19.sys
      obtain ⟨eg20_29a, eg20_29b, eg20_29c⟩ := bxg20_29.sys
      try simp (maxSteps := 1000000) [go_sem, Bk.val, hbig0, hneg0, hng34, hng36, hp32, one0, one_g20_29, one_g2_17, one_o19, sysV, d0a, d0b, d0c, d1a, d1b, d1c, d1d, eg2_17a, eg2_17b, eg2_17c, eo19a, eo19b, eo19c, eg20_29a, eg20_29b, eg20_29c]
      refine toSys_ok (hq0.pre qz0) hl0 _ ?_
      intro H49 wo49 hp49 hoo49
      replace bx0 := bx0.pre hp49
      replace bx1 := bx1.pre hp49
      replace bxg2_17 := bxg2_17.pre hp49
      replace bxo19 := bxo19.pre hp49
      replace bxg20_29 := bxg20_29.pre hp49
      replace hog2_17 := hog2_17.pre hp49
      replace mk34 := mk34.pre hp49
      replace mk36 := mk36.pre hp49
      replace hoo32 := hoo32.pre hp49
      replace qz0 := qz0.trans hp49
      replace hq37 := hq37.trans hp49
      replace hqH48 := hqH48.trans hp49
      have hlH49 := hp49.length_le
      obtain ⟨d0a, d0b, d0c⟩ := bx0.sys
      obtain ⟨d1a, d1b, d1c, d1d⟩ := bx1.bk
      obtain ⟨eg2_17a, eg2_17b, eg2_17c⟩ := bxg2_17.sys
      obtain ⟨eo19a, eo19b, eo19c⟩ := bxo19.sys
      obtain ⟨eg20_29a, eg20_29b, eg20_29c⟩ := bxg20_29.sys
      try simp (maxSteps := 1000000) [go_sem, Bk.val, hbig0, hneg0, hng34, hng36, hp32, hp49, one0, one_g20_29, one_g2_17, one_o19, sysV, d0a, d0b, d0c, d1a, d1b, d1c, d1d, eg2_17a, eg2_17b, eg2_17c, eo19a, eo19b, eo19c, eg20_29a, eg20_29b, eg20_29c]
      refine toBlock_ok (b := b1) _ ?_
      intro H50 hp50
      replace bx0 := bx0.pre hp50
      replace bx1 := bx1.pre hp50
      replace bxg2_17 := bxg2_17.pre hp50
      replace bxo19 := bxo19.pre hp50
      replace bxg20_29 := bxg20_29.pre hp50
      replace hog2_17 := hog2_17.pre hp50
      replace mk34 := mk34.pre hp50
      replace mk36 := mk36.pre hp50
      replace hoo32 := hoo32.pre hp50
      replace hoo49 := hoo49.pre hp50
      replace qz0 := qz0.trans hp50
      replace hq37 := hq37.trans hp50
      replace hqH48 := hqH48.trans hp50
      have hlH50 := hp50.length_le
      obtain ⟨d0a, d0b, d0c⟩ := bx0.sys
      obtain ⟨d1a, d1b, d1c, d1d⟩ := bx1.bk
      obtain ⟨eg2_17a, eg2_17b, eg2_17c⟩ := bxg2_17.sys
      obtain ⟨eo19a, eo19b, eo19c⟩ := bxo19.sys
      obtain ⟨eg20_29a, eg20_29b, eg20_29c⟩ := bxg20_29.sys
      try simp (maxSteps := 1000000) [go_sem, Bk.val, hbig0, hneg0, hng34, hng36, hp32, hp49, one0, one_g20_29, one_g2_17, one_o19, sysV, d0a, d0b, d0c, d1a, d1b, d1c, d1d, eg2_17a, eg2_17b, eg2_17c, eo19a, eo19b, eo19c, eg20_29a, eg20_29b, eg20_29c]
      refine implPut_ok hoo49.read hl0 (b := b1) hn1 _ ?_
      intro H51 wrH51 hp51 horH51
      replace bx0 := bx0.pre hp51
      replace bx1 := bx1.pre hp51
      replace bxg2_17 := bxg2_17.pre hp51
      replace bxo19 := bxo19.pre hp51
      replace bxg20_29 := bxg20_29.pre hp51
      replace hog2_17 := hog2_17.pre hp51
      replace mk34 := mk34.pre hp51
      replace mk36 := mk36.pre hp51
      replace hoo32 := hoo32.pre hp51
      replace hoo49 := hoo49.pre hp51
      replace qz0 := qz0.trans hp51
      replace hq37 := hq37.trans hp51
      replace hqH48 := hqH48.trans hp51
      have hlH51 := hp51.length_le
      obtain ⟨d0a, d0b, d0c⟩ := bx0.sys
      obtain ⟨d1a, d1b, d1c, d1d⟩ := bx1.bk
      obtain ⟨eg2_17a, eg2_17b, eg2_17c⟩ := bxg2_17.sys
      obtain ⟨eo19a, eo19b, eo19c⟩ := bxo19.sys
      obtain ⟨eg20_29a, eg20_29b, eg20_29c⟩ := bxg20_29.sys
      have one_rH51 : wrH51.oneCell' = true := horH51.read.one
      obtain ⟨st37, bh37, bs37, bl37⟩ := boxLate hzH48 hqH48 (cs := [.int .i64 (rPut p0 b0 b1).1.1, wrH51]) rfl (by simp [one_int, one_rH51])
      have hid37 : H37.length ≤ H37.length := by omega
      have hpe37 := ((Same.of_prefix hq37).trans bs37).prefix (by intro j hj e; omega)
      have hke37 := horH51.keep bs37 (by rintro j ⟨h1, h2⟩ e; omega)
      generalize H51.set H37.length ⟨[.int .i64 (rPut p0 b0 b1).1.1, wrH51], true, true⟩ = H52 at *
      try simp (maxSteps := 1000000) [go_sem, Bk.val, hbig0, hneg0, hng34, hng36, hp32, hp49, one0, one_g20_29, one_g2_17, one_o19, one_rH51, st37, sysV, d0a, d0b, d0c, d1a, d1b, d1c, d1d, eg2_17a, eg2_17b, eg2_17c, eo19a, eo19b, eo19c, eg20_29a, eg20_29b, eg20_29c]
      refine hQ' ⟨H37.length, H50.length, H51.length, wrH51⟩ _ _ (by simp [upF, Fr.get, Up.refl]) ?_
      exact ⟨hpe37, by simp only; omega, by simp only; omega, bh37, by simp only; omega, by simp only; omega, by simp only; omega, hke37⟩
  rintro ⟨idg37_52, log37_52, hig37_52, wg37_52⟩ H53 ⟨hp53, h1g37_52, h2g37_52, bxg37_52, h3g37_52, h4g37_52, h5g37_52, hog37_52⟩
  simp only at h1g37_52 h2g37_52 bxg37_52 h3g37_52 h4g37_52 h5g37_52 hog37_52
  replace bx0 := bx0.pre hp53
  replace bx1 := bx1.pre hp53
  replace bxg2_17 := bxg2_17.pre hp53
  replace bxo19 := bxo19.pre hp53
  replace bxg20_29 := bxg20_29.pre hp53
  replace hog2_17 := hog2_17.pre hp53
  replace mk34 := mk34.pre hp53
  replace mk36 := mk36.pre hp53
  replace hoo32 := hoo32.pre hp53
  replace qz0 := qz0.trans hp53
  have hlH53 := hp53.length_le
  obtain ⟨d0a, d0b, d0c⟩ := bx0.sys
  obtain ⟨d1a, d1b, d1c, d1d⟩ := bx1.bk
  obtain ⟨eg2_17a, eg2_17b, eg2_17c⟩ := bxg2_17.sys
  obtain ⟨eo19a, eo19b, eo19c⟩ := bxo19.sys
  obtain ⟨eg20_29a, eg20_29b, eg20_29c⟩ := bxg20_29.sys
  have one_g37_52 : wg37_52.oneCell' = true := hog37_52.read.one
  obtain ⟨eg37_52a, eg37_52b, eg37_52c⟩ := bxg37_52.sys
  try simp (maxSteps := 1000000) [go_sem, Bk.val, hbig0, hneg0, hng34, hng36, hp32, one0, one_g20_29, one_g2_17, one_g37_52, one_o19, sysV, d0a, d0b, d0c, d1a, d1b, d1c, d1d, eg2_17a, eg2_17b, eg2_17c, eo19a, eo19b, eo19c, eg20_29a, eg20_29b, eg20_29c, eg37_52a, eg37_52b, eg37_52c]
  refine eqSystem_ok hog37_52.read hog2_17.read _ ?_
  intro H54 hp54
  replace bx0 := bx0.pre hp54
  replace bx1 := bx1.pre hp54
  replace bxg2_17 := bxg2_17.pre hp54
  replace bxo19 := bxo19.pre hp54
  replace bxg20_29 := bxg20_29.pre hp54
  replace bxg37_52 := bxg37_52.pre hp54
  replace hog2_17 := hog2_17.pre hp54
  replace mk34 := mk34.pre hp54
  replace mk36 := mk36.pre hp54
  replace hoo32 := hoo32.pre hp54
  replace hog37_52 := hog37_52.pre hp54
  replace qz0 := qz0.trans hp54
  have hlH54 := hp54.length_le
  obtain ⟨d0a, d0b, d0c⟩ := bx0.sys
  obtain ⟨d1a, d1b, d1c, d1d⟩ := bx1.bk
  obtain ⟨eg2_17a, eg2_17b, eg2_17c⟩ := bxg2_17.sys
  obtain ⟨eo19a, eo19b, eo19c⟩ := bxo19.sys
  obtain ⟨eg20_29a, eg20_29b, eg20_29c⟩ := bxg20_29.sys
  obtain ⟨eg37_52a, eg37_52b, eg37_52c⟩ := bxg37_52.sys
  try simp (maxSteps := 1000000) [go_sem, Bk.val, hbig0, hneg0, hng34, hng36, hp32, one0, one_g20_29, one_g2_17, one_g37_52, one_o19, sysV, d0a, d0b, d0c, d1a, d1b, d1c, d1d, eg2_17a, eg2_17b, eg2_17c, eo19a, eo19b, eo19c, eg20_29a, eg20_29b, eg20_29c, eg37_52a, eg37_52b, eg37_52c]
  refine heldSys_ok mk36 (by omega) (by omega) _ ?_
  intro H55 hp55
  replace bx0 := bx0.pre hp55
  replace bx1 := bx1.pre hp55
  replace bxg2_17 := bxg2_17.pre hp55
  replace bxo19 := bxo19.pre hp55
  replace bxg20_29 := bxg20_29.pre hp55
  replace bxg37_52 := bxg37_52.pre hp55
  replace hog2_17 := hog2_17.pre hp55
  replace mk34 := mk34.pre hp55
  replace mk36 := mk36.pre hp55
  replace hoo32 := hoo32.pre hp55
  replace hog37_52 := hog37_52.pre hp55
  replace qz0 := qz0.trans hp55
  have hlH55 := hp55.length_le
  obtain ⟨d0a, d0b, d0c⟩ := bx0.sys
  obtain ⟨d1a, d1b, d1c, d1d⟩ := bx1.bk
  obtain ⟨eg2_17a, eg2_17b, eg2_17c⟩ := bxg2_17.sys
  obtain ⟨eo19a, eo19b, eo19c⟩ := bxo19.sys
  obtain ⟨eg20_29a, eg20_29b, eg20_29c⟩ := bxg20_29.sys
  obtain ⟨eg37_52a, eg37_52b, eg37_52c⟩ := bxg37_52.sys
  try simp (maxSteps := 1000000) [go_sem, Bk.val, hbig0, hneg0, hng34, hng36, hp32, one0, one_g20_29, one_g2_17, one_g37_52, one_o19, sysV, d0a, d0b, d0c, d1a, d1b, d1c, d1d, eg2_17a, eg2_17b, eg2_17c, eo19a, eo19b, eo19c, eg20_29a, eg20_29b, eg20_29c, eg37_52a, eg37_52b, eg37_52c]

end Go.Proofs.Ytakkmkinfeddeaa
end
