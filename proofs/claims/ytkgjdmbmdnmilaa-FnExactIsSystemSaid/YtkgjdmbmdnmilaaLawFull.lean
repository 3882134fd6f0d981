/- The laws on IsSystem and IsFull, in abstract terms: their code returns true. -/
import Derived.Test.YtkgjdmbmdnmilaaFull
set_option linter.all false
set_option maxRecDepth 20000
namespace Go.Proofs.Ytkgjdmbmdnmilaa
open Go.Ab

theorem lawFnExactIsSystem (H : Heap) (avs : List Value) (h : argsSay [shSystem] H avs) : ACalls Try.prog 5 avs H fun v _ => v = .bool true := by
  obtain ⟨v, us, rfl, hv, rfl⟩ := h
  obtain ⟨p, u, bs, rfl, hp, hu0, hb⟩ := says_shSystem hv
  have hone : u.oneCell' = true := by obtain ⟨i, o, rfl, _⟩ := hu0; rfl
  refine acalls_vc (rs := [.tmp 2]) Try.func5 rfl rfl Try.ntmps5 rfl rfl ?_
  simp (maxSteps := 1000000) [go_sem, sysV, hone]
  have hp0 := List.prefix_append H [(⟨[.int .i64 p, u], true, true⟩ : Blk)]
  refine szSystem0_ok (hu0.pre hp0) (by omega) (by omega) _ ?_
  intro H1 hp1
  by_cases hbig : (1048576 : Int) < bs.length
  · simp (maxSteps := 1000000) [go_sem, hbig]
  have hneg : decide ((1048576 : Int) - bs.length < 0) = false := by simp; omega
  obtain ⟨d1, _, _⟩ := sysBox hp1
  have hl : bs.length ≤ 1048576 := by omega
  have hu := hu0.at (by omega)
  simp (maxSteps := 1000000) [go_sem, hbig, hneg, d1]
  refine toSystem_ok (hu.pre (pre_box hp1)) _ hl ?_
  intro H2 u2 id2 hp2 _ ho2
  simp (maxSteps := 1000000) [go_sem]
  refine specIsSys ho2.read hl _ ?_
  intro H3 hp3
  obtain ⟨d3, _, _⟩ := sysBox (hp1.trans (hp2.trans hp3))
  simp (maxSteps := 1000000) [go_sem, d3]
  refine toSystem_ok (hu.pre (pre_box (hp1.trans (hp2.trans hp3)))) _ hl ?_
  intro H4 u4 id4 hp4 _ ho4
  have o4 : u4.oneCell' = true := ho4.read.one
  simp (maxSteps := 1000000) [go_sem, sysV, o4]
  have hx0 := List.prefix_append H4 [(⟨[.int .i64 p, u4], true, true⟩ : Blk)]
  refine implIsSys (ho4.read.pre hx0) _ ?_
  intro H5 hp5
  simp (maxSteps := 1000000) [go_sem]
  obtain ⟨e5, _, _⟩ := sysBox hp5
  have hq5 := hp1.trans (hp2.trans (hp3.trans (hp4.trans (hx0.trans hp5))))
  obtain ⟨d5, _, _⟩ := sysBox hq5
  refine AWp.draw mixed [(0, false), (1, false), (2, true), (3, false), (4, false)] (by kernel_rfl) ?_
  simp (maxSteps := 1000000) [go_sem, e5, d5]
  refine toSystem_ok (hu.pre (pre_box hq5)) _ hl ?_
  intro H6 u6 id6 hp6 _ ho6
  simp (maxSteps := 1000000) [go_sem, hp6]
  refine eqSystem_ok (ho4.read.pre (hx0.trans (hp5.trans hp6))) ho6.read _ ?_
  intro H7 hp7
  simp (maxSteps := 1000000) [go_sem]

end Go.Proofs.Ytkgjdmbmdnmilaa
