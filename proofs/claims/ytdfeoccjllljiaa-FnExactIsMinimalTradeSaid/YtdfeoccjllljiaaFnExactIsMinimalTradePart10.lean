/- Part 10 of what the proof of the law FnExactIsMinimalTrade rests on: contracts of functions of the program, for every argument that each names; no statement of the seat is proved here. -/
import Derived.Test.YtdfeoccjllljiaaFnExactIsMinimalTradePart9

section
/- Trades: what a trade is, both sides. -/
set_option linter.all false
set_option maxRecDepth 20000
set_option maxHeartbeats 8000000
namespace Go.Proofs.Ytdfeoccjllljiaa
open Go.Ab Go.Sort

def tradeV (p : Int) (u w : Value) : Value := .agg #[.int .i64 p, u, w]
theorem _root_.Go.Ab.Holds.tr {H : Heap} {i : Nat} {p : Int} {u w : Value} (h : Holds H i [.int .i64 p, u, w]) : cellsAt H i 0 3 = some [.int .i64 p, u, w] ∧ cellsAt H i 0 1 = some [.int .i64 p] ∧ cellsAt H i 1 1 = some [u] ∧ cellsAt H i 2 1 = some [w] :=
  ⟨by simpa using h.cells (n := 3) (o := 0) (by simp), h.cell rfl, h.cell rfl, h.cell rfl⟩

theorem areBlocksB {H : Heap} {u : Value} {p : Int} {bs : List Bk} (hu : BlocksAt H u bs) (Post : Value → Heap → Prop) (h : ∀ H', H <+: H' → Post (.bool (sysB p bs)) H') : ACalls Try.prog 135 [.int .i64 p, u] H Post :=
  areBlocks_ok hu Post fun H' b hp hb => by rw [sysB_eq hb]; exact h H' hp

theorem implIsTrade {H : Heap} {u w : Value} {p : Int} {o i : List Bk} (hu : BlocksAt H u o) (hw : BlocksAt H w i) (Post : Value → Heap → Prop) (h : ∀ H', H <+: H' → Post (.bool (tradeB p o i)) H') :
    ACalls Try.prog 74 [tradeV p u w] H Post := by
  have ou := hu.one
  have ow := hw.one
  refine acalls_vc (rs := [.tmp 2]) Try.func74 rfl rfl Try.ntmps74 rfl rfl ?_
  simp (maxSteps := 1000000) [go_sem, tradeV, ou, ow]
  have hp0 : H <+: H ++ [⟨[.int .i64 p, u, w], true, true⟩] := List.prefix_append _ _
  have hx0 := Holds.last H [.int .i64 p, u, w]
  generalize H ++ [(⟨[.int .i64 p, u, w], true, true⟩ : Blk)] = H0 at hp0 hx0 ⊢
  refine areBlocksB (hu.pre hp0) _ ?_
  intro H1 hp1
  obtain ⟨d0, d1, d2, d3⟩ := (hx0.pre hp1).tr
  cases hs1 : sysB p o with
  | false =>
    have fin := h H1 (hp0.trans hp1)
    simp only [tradeB, hs1, Bool.false_and] at fin
    simp (maxSteps := 1000000) [go_sem, undef]
    exact fin
  | true =>
    have hS1 := sysB_of hs1
    have ho35 := hS1.2.1
    simp (maxSteps := 1000000) [go_sem, d1, d3]
    refine areBlocksB (hw.pre (hp0.trans hp1)) _ ?_
    intro H2 hp2
    obtain ⟨d0, d1, d2, d3⟩ := (hx0.pre (hp1.trans hp2)).tr
    have hp02 := hp0.trans (hp1.trans hp2)
    cases hs2 : sysB p i with
    | false =>
      have fin := h H2 hp02
      simp only [tradeB, hs1, hs2, Bool.false_and, Bool.and_false] at fin
      simp (maxSteps := 1000000) [go_sem, undef]
      exact fin
    | true =>
      have hS2 := sysB_of hs2
      simp (maxSteps := 1000000) [go_sem, d2, d3]
      refine implCommon_ok (hu.pre hp02) (hw.pre hp02) (by omega) _ ?_
      intro H3 v3 hp3 hv3
      obtain ⟨d0, d1, d2, d3⟩ := (hx0.pre ((hp1.trans hp2).trans hp3)).tr
      have hp03 := hp02.trans hp3
      obtain ⟨id3, ⟨hv, _⟩, _⟩ := hv3
      rw [hv]
      have hb : o.filter (memB i) = bothB o i := rfl
      rw [hb]
      by_cases h0 : bothB o i = []
      · simp (maxSteps := 1000000) [go_sem, h0, d2, d3]
        refine haveSamePairs_ok (hu.pre hp03) (hw.pre hp03) hS1 hS2 _ ?_
        intro H4 hp4
        have fin := h H4 (hp03.trans hp4)
        simp only [tradeB, hs1, hs2, h0, decide_true, Bool.true_and] at fin
        simp (maxSteps := 1000000) [go_sem]
        exact fin
      · have h1 : ¬ (bothB o i).length = 0 := fun e => h0 (List.eq_nil_of_length_eq_zero e)
        have h1' : (((bothB o i).length : Int) == 0) = false := by simp [h0]
        have fin := h H3 hp03
        simp only [tradeB, hs1, hs2, decide_eq_false h0, Bool.false_and, Bool.and_false] at fin
        simp (maxSteps := 1000000) [go_sem, undef, h0, h1, h1']
        exact fin

theorem l04Pair_ok {H : Heap} {x y : Nat} (hxy : x < y) (hy : y < 15) (Post : Value → Heap → Prop) (h : Post (.int .i64 ((x * 16 + y : Nat) : Int)) H) : ACalls Try.prog 169 [.int .i64 x, .int .i64 y] H Post := by
  refine acalls_vc (rs := [.tmp 4]) Try.func169 rfl rfl Try.ntmps169 rfl rfl ?_
  have w1 : IntKind.i64.wrap ((x : Int) * 16) = (x : Int) * 16 := i64w (by omega) (by omega)
  have w2 : IntKind.i64.wrap ((x : Int) * 16 + y) = (x : Int) * 16 + y := i64w (by omega) (by omega)
  have m1 : min (x : Int) y = x := by omega
  have m2 : max (x : Int) y = y := by omega
  have m3 : min x y = x := by omega
  have m4 : max x y = y := by omega
  have a1 : (x : Int) < y := by omega
  have a2 : ¬ ((y : Int) < x) := by omega
  simp (maxSteps := 1000000) [go_sem, w1, w2, m1, m2, m3, m4, a1, a2, hxy]
  simpa using h

theorem codesB_take {bs : List Bk} {s x y z : Nat} (h : bs[s]? = some ⟨x, y, z⟩) : codesB (bs.take (s + 1)) = codesB (bs.take s) ++ [x * 16 + y] ++ [x * 16 + z] ++ [y * 16 + z] := by
  unfold codesB
  rw [pairsB_take h, List.map_append]
  simp only [prs, List.map_cons, List.map_nil, codeP, List.append_assoc, List.singleton_append]
  congr 1

theorem l04Pairs_ok {H : Heap} {u : Value} {bs : List Bk} (hu : BlocksAt H u bs) (hg : ∀ x ∈ bs, good 15 x = true) (hl : bs.length ≤ 1048576) (Post : Value → Heap → Prop)
    (h : ∀ (H' : Heap) (id : Nat), H <+: H' → H'[id]? = some ⟨metC 256 (codesB bs), true, true⟩ → Post (.slice (some ⟨id, 0, none⟩) 256 256) H') : ACalls Try.prog 168 [u] H Post := by
  obtain ⟨i, o, rfl, h1, h2⟩ := hu
  refine acalls_vc (rs := [.tmp 2]) Try.func168 rfl rfl Try.ntmps168 rfl rfl ?_
  simp (maxSteps := 1000000) [go_sem, madeB, metC_length]
  have hp0 : H <+: H ++ [⟨metC 256 [], true, true⟩] := List.prefix_append _ _
  have hb0 : (H ++ [(⟨metC 256 [], true, true⟩ : Blk)])[H.length]? = some ⟨metC 256 [], true, true⟩ := by simp
  generalize H ++ [(⟨metC 256 [], true, true⟩ : Blk)] = H0 at hp0 hb0 ⊢
  refine AWp.loopVc (fun s : Nat => [(0, lv 3 i o bs.length), (3, .slice (some ⟨H.length, 0, none⟩) 256 256), (4, .int .i64 s)])
    (fun s H' => s ≤ bs.length ∧ Same (fun k => k = H.length) H0 H' ∧ H'[H.length]? = some ⟨metC 256 (codesB (bs.take s)), true, true⟩) (fun s => bs.length - s) 0 ?_ ?_ ?_
  · simp [upF, Fr.get, Up.refl]
  · exact ⟨by omega, Same.refl _ _, by simpa [codesB, pairsB] using hb0⟩
  · rintro K s H1 ⟨hs, hS1, hm⟩ hK
    have pre : ∀ {H' : Heap}, Same (fun k => k = H.length) H0 H' → H <+: H' := fun hS => ((Same.of_prefix hp0).trans hS).prefix (by intro j hj e; omega)
    have st : ∀ {H' : Heap} {cs : List Nat} (c : Nat), H'[H.length]? = some ⟨metC 256 cs, true, true⟩ → c < 256 →
        storeAt H' H.length c [.bool true] = some (H'.set H.length ⟨metC 256 (cs ++ [c]), true, true⟩) ∧ (H'.set H.length ⟨metC 256 (cs ++ [c]), true, true⟩)[H.length]? = some ⟨metC 256 (cs ++ [c]), true, true⟩ ∧ Same (fun k => k = H.length) H' (H'.set H.length ⟨metC 256 (cs ++ [c]), true, true⟩) := by
      intro H' cs c hb hc
      refine ⟨?_, List.getElem?_set_self (List.getElem?_eq_some_iff.1 hb).1, same_set⟩
      rw [storeAt_of hb rfl rfl (by simp [metC_length]; omega) (by simp [Value.oneCell'])]
      have := metC_put (v := 256) (met := cs) hc
      simp only [over, List.length_singleton, List.append_assoc, List.singleton_append]
      rw [this]
    by_cases hlt : s < bs.length
    · have hbs : bs[s]? = some bs[s] := List.getElem?_eq_getElem hlt
      obtain ⟨x, y, z, hb, hxy, hyz, hz⟩ := good_nat (hg _ (List.mem_of_getElem? hbs)) (Int.le_refl _)
      rw [hb] at hbs
      have ct := codesB_take hbs
      have ld : ∀ {H' : Heap}, H <+: H' → cellsAt H' i (o + s * 3) 1 = some [.int .i64 (x : Int)] ∧ cellsAt H' i (o + s * 3 + 1) 1 = some [.int .i64 (y : Int)] ∧ cellsAt H' i (o + s * 3 + 2) 1 = some [.int .i64 (z : Int)] := by
        intro H' hp
        exact ⟨by have := (h1.pre hp).num hbs (j := 0) rfl; simpa using this, (h1.pre hp).num hbs (j := 1) rfl, (h1.pre hp).num hbs (j := 2) rfl⟩
      have hw_s : IntKind.i64.wrap ((s : Int) + 1) = (s : Int) + 1 := i64w (by omega) (by omega)
      obtain ⟨c1, hc1⟩ : ∃ c, x * 16 + y = c := ⟨_, rfl⟩
      obtain ⟨c2, hc2⟩ : ∃ c, x * 16 + z = c := ⟨_, rfl⟩
      obtain ⟨c3, hc3⟩ : ∃ c, y * 16 + z = c := ⟨_, rfl⟩
      rw [hc1, hc2, hc3] at ct
      obtain ⟨a1, a2, a3⟩ := ld (pre hS1)
      obtain ⟨s1, m1, k1⟩ := st c1 hm (by omega)
      have hS2 := hS1.trans k1
      obtain ⟨b1, b2, b3⟩ := ld (pre hS2)
      obtain ⟨s2, m2, k2⟩ := st c2 m1 (by omega)
      have hS3 := hS2.trans k2
      obtain ⟨e1, e2, e3⟩ := ld (pre hS3)
      obtain ⟨s3, m3, k3⟩ := st c3 m2 (by omega)
      have hS4 := hS3.trans k3
      rw [← ct] at m3 s3 hS4
      generalize H1.set H.length ⟨metC 256 (codesB (bs.take s) ++ [c1]), true, true⟩ = HA at *
      generalize HA.set H.length ⟨metC 256 (codesB (bs.take s) ++ [c1] ++ [c2]), true, true⟩ = HB at *
      generalize HB.set H.length ⟨metC 256 (codesB (bs.take (s + 1))), true, true⟩ = HC at *
      have n1 : c1 < 256 := by omega
      have n2 : c2 < 256 := by omega
      have n3 : c3 < 256 := by omega
      have n1' : (c1 : Int) < 256 := by omega
      have n2' : (c2 : Int) < 256 := by omega
      have n3' : (c3 : Int) < 256 := by omega
      simp (maxSteps := 1000000) [go_sem, hlt]
      refine AWp.draw mixed [(0, false), (1, false), (2, false), (3, false), (4, false), (5, false), (6, false), (7, false), (8, false), (9, false), (10, false), (11, false), (12, false), (13, false)] (by kernel_rfl) ?_
      simp (maxSteps := 1000000) [go_sem, hlt, a1, a2]
      refine l04Pair_ok hxy (by omega) _ ?_
      rw [hc1]
      simp (maxSteps := 1000000) [go_sem, n1, n1', s1]
      refine AWp.draw mixed [(0, false), (1, false), (2, false), (3, false), (4, false), (5, false), (6, false), (7, false), (8, false), (9, false), (10, false), (11, false), (12, false), (13, false)] (by kernel_rfl) ?_
      simp (maxSteps := 1000000) [go_sem, hlt, b1, b3]
      refine l04Pair_ok (by omega) hz _ ?_
      rw [hc2]
      simp (maxSteps := 1000000) [go_sem, n2, n2', s2]
      refine AWp.draw mixed [(0, false), (1, false), (2, false), (3, false), (4, false), (5, false), (6, false), (7, false), (8, false), (9, false), (10, false), (11, false), (12, false), (13, false)] (by kernel_rfl) ?_
      simp (maxSteps := 1000000) [go_sem, hlt, e2, e3]
      refine l04Pair_ok hyz hz _ ?_
      rw [hc3]
      simp (maxSteps := 1000000) [go_sem, n3, n3', s3, hw_s]
      exact hK (s + 1) _ _ (by omega) (by simp [upF, Fr.get, Up.refl]) ⟨by omega, hS4, m3⟩
    · have : s = bs.length := by omega
      subst this
      rw [List.take_length] at hm
      simp (maxSteps := 1000000) [go_sem]
      exact h H1 H.length (pre hS1) hm

end Go.Proofs.Ytdfeoccjllljiaa
end

section
/- Trades: the specification's side, whole. -/
set_option linter.all false
set_option maxRecDepth 20000
set_option maxHeartbeats 8000000
namespace Go.Proofs.Ytdfeoccjllljiaa
open Go.Ab Go.Sort

theorem l04Same_ok {H : Heap} {u w : Value} {x y : List Bk} (hu : BlocksAt H u x) (hw : BlocksAt H w y) (hx : ∀ b ∈ x, good 15 b = true) (hy : ∀ b ∈ y, good 15 b = true) (hl : x.length ≤ 1048576) (hl' : y.length ≤ 1048576) (Post : Value → Heap → Prop)
    (h : ∀ H', H <+: H' → Post (.bool (samePairs x y)) H') : ACalls Try.prog 131 [u, w] H Post := by
  refine acalls_vc (rs := [.tmp 4]) Try.func131 rfl rfl Try.ntmps131 rfl rfl ?_
  simp (maxSteps := 1000000) [go_sem]
  refine l04Pairs_ok hu hx hl _ ?_
  intro H1 i1 hp1 hb1
  simp (maxSteps := 1000000) [go_sem]
  refine l04Pairs_ok (hw.pre hp1) hy hl' _ ?_
  intro H2 i2 hp2 hb2
  have hb1 : H2[i1]? = some ⟨metC 256 (codesB x), true, true⟩ := Same.get (S := fun _ => False) (Same.of_prefix hp2) hb1 (fun h => h)
  simp (maxSteps := 1000000) [go_sem]
  refine AWp.loopVc (fun s : Nat => [(5, .slice (some ⟨i1, 0, none⟩) 256 256), (6, .slice (some ⟨i2, 0, none⟩) 256 256), (7, .int .i64 s)])
    (fun s H' => s ≤ 256 ∧ H' = H2 ∧ ∀ c, c < s → (c ∈ codesB x ↔ c ∈ codesB y)) (fun s => 256 - s) 0 ?_ ?_ ?_
  · simp [upF, Fr.get, Up.refl]
  · exact ⟨by omega, rfl, fun c hc => by omega⟩
  · rintro K s H' ⟨hs, rfl, hf⟩ hK
    by_cases hlt : s < 256
    · have hlt' : (s : Int) < 256 := by omega
      have c1 : cellsAt H' i1 s 1 = some [.bool (decide (s ∈ codesB x))] := Holds.cell (H := H') ⟨true, hb1⟩ (metC_get hlt)
      have c2 : cellsAt H' i2 s 1 = some [.bool (decide (s ∈ codesB y))] := Holds.cell (H := H') ⟨true, hb2⟩ (metC_get hlt)
      obtain ⟨p, hp⟩ : ∃ p, p = decide (s ∈ codesB x) := ⟨_, rfl⟩
      obtain ⟨q, hq⟩ : ∃ q, q = decide (s ∈ codesB y) := ⟨_, rfl⟩
      rw [← hp] at c1
      rw [← hq] at c2
      have hw_s : IntKind.i64.wrap ((s : Int) + 1) = (s : Int) + 1 := i64w (by omega) (by omega)
      simp (maxSteps := 1000000) [go_sem, hlt, hlt']
      refine AWp.draw mixed [(0, false), (1, false), (2, false), (3, false), (4, false), (5, false), (6, false), (7, false), (8, false)] (by kernel_rfl) ?_
      by_cases hpq : p = q
      · subst hpq
        simp (maxSteps := 1000000) [go_sem, hlt, hlt', c1, c2, hw_s]
        refine hK (s + 1) _ _ (by omega) (by simp [upF, Fr.get, Up.refl]) ⟨by omega, rfl, ?_⟩
        intro c hc
        rcases Nat.lt_or_ge c s with h1 | h1
        · exact hf c h1
        · have : c = s := by omega
          subst this
          rw [hp] at hq
          exact decide_eq_decide.1 hq
      · have fin := h H' (hp1.trans hp2)
        have e : false = samePairs x y := by
          refine same_codes hx hy ?_
          constructor
          · intro h; cases h
          · intro hall
            exact absurd (by rw [hp, hq]; exact decide_eq_decide.2 (hall s hlt)) hpq
        rw [← e] at fin
        have hpq' : (p == q) = false := by rw [beq_eq_false_iff_ne]; exact hpq
        simp (maxSteps := 1000000) [go_sem, hlt, hlt', c1, c2, hpq']
        exact fin
    · have : s = 256 := by omega
      subst this
      have fin := h H' (hp1.trans hp2)
      have e : true = samePairs x y := same_codes hx hy ⟨fun _ => hf, fun _ => rfl⟩
      rw [← e] at fin
      simp (maxSteps := 1000000) [go_sem]
      exact fin

theorem l04Member_ok {H : Heap} {u : Value} {bs : List Bk} {b : Bk} (hu : BlocksAt H u bs) (Post : Value → Heap → Prop) (h : ∀ H', H <+: H' → Post (.bool (memB bs b)) H') :
    ACalls Try.prog 132 [u, b.val] H Post := by
  obtain ⟨i, o, rfl, h1, h2⟩ := hu
  refine acalls_vc (rs := [.tmp 4]) Try.func132 rfl rfl Try.ntmps132 rfl rfl ?_
  simp (maxSteps := 1000000) [go_sem, Bk.val]
  have hp0 : H <+: H ++ [⟨[.int .i64 b.a, .int .i64 b.b, .int .i64 b.c], true, true⟩] := List.prefix_append _ _
  have hx1 := Holds.last H [.int .i64 b.a, .int .i64 b.b, .int .i64 b.c]
  generalize H ++ [(⟨[.int .i64 b.a, .int .i64 b.b, .int .i64 b.c], true, true⟩ : Blk)] = H0 at hp0 hx1 ⊢
  obtain ⟨e0, e1, e2, e3⟩ := hx1.bk
  refine AWp.loopVc (fun s : Nat => [(0, lv 3 i o bs.length), (3, .pointer (some ⟨H.length, 0, none⟩)), (5, .int .i64 s)])
    (fun s H' => s ≤ bs.length ∧ H' = H0 ∧ b ∉ bs.take s) (fun s => bs.length - s) 0 ?_ ?_ ?_
  · simp [upF, Fr.get, Up.refl]
  · exact ⟨by omega, rfl, by simp⟩
  · rintro K s H' ⟨hs, rfl, hf⟩ hK
    by_cases hlt : s < bs.length
    · have hbs : bs[s]? = some bs[s] := List.getElem?_eq_getElem hlt
      have c1 := (h1.pre hp0).bk hbs
      simp only [Bk.cells] at c1
      have hw_s : IntKind.i64.wrap ((s : Int) + 1) = (s : Int) + 1 := i64w (by omega) (by omega)
      simp (maxSteps := 1000000) [go_sem, hlt]
      refine AWp.draw mixed [(0, false), (1, false), (2, false), (3, false), (4, false), (5, false)] (by kernel_rfl) ?_
      by_cases he : bs[s] = b
      · have he' := (Bk.eq3 _ _).1 he
        simp (maxSteps := 1000000) [go_sem, hlt, c1, e0, he'.1, he'.2.1, he'.2.2]
        have : memB bs b = true := by simp [memB, ← he]
        simpa [this] using h H' hp0
      · have he' : ¬ (bs[s].a = b.a ∧ bs[s].b = b.b ∧ bs[s].c = b.c) := fun hh => he ((Bk.eq3 _ _).2 hh)
        simp (maxSteps := 1000000) [go_sem, hlt, c1, e0, hw_s]
        have he2 : decide (bs[s].a = b.a ∧ bs[s].b = b.b ∧ bs[s].c = b.c) = false := by simpa using he'
        try rw [he2]
        try simp only [condK_false]
        refine condK_intro (fun hh => absurd (by simpa using hh) he') (fun _ => ?_)
        refine hK (s + 1) _ _ (by omega) (by simp [upF, Fr.get, Up.refl]) ⟨by omega, rfl, ?_⟩
        rw [List.take_succ_eq_append_getElem hlt, List.mem_append]
        rintro (hh | hh)
        · exact hf hh
        · simp at hh; exact he hh.symm
    · have : s = bs.length := by omega
      subst this
      rw [List.take_length] at hf
      simp (maxSteps := 1000000) [go_sem]
      have : memB bs b = false := by simp [memB, hf]
      simpa [this] using h H' hp0

theorem bothB_nil {o i : List Bk} : bothB o i = [] ↔ ∀ b ∈ o, memB i b = false := by
  unfold bothB
  rw [List.filter_eq_nil_iff]
  constructor <;> intro h b hb
  · simpa using h b hb
  · simpa using h b hb

theorem l04Is_ok {H : Heap} {u w : Value} {p : Int} {o i : List Bk} (hu : BlocksAt H u o) (hw : BlocksAt H w i) (hl : o.length ≤ 1048576) (hl' : i.length ≤ 1048576) (Post : Value → Heap → Prop) (h : ∀ H', H <+: H' → Post (.bool (tradeB p o i)) H') :
    ACalls Try.prog 72 [tradeV p u w] H Post := by
  have hu0 := hu
  have hw0 := hw
  obtain ⟨j1, q1, eu, _, _⟩ := hu
  obtain ⟨j2, q2, ew, _, _⟩ := hw
  subst eu
  subst ew
  have hu := hu0
  have hw := hw0
  refine acalls_vc (rs := [.tmp 2]) Try.func72 rfl rfl Try.ntmps72 rfl rfl ?_
  simp (maxSteps := 1000000) [go_sem, tradeV]
  have hp0 : H <+: H ++ [⟨[.int .i64 p, lv 3 j1 q1 o.length, lv 3 j2 q2 i.length], true, true⟩, ⟨[.int .i64 p, lv 3 j1 q1 o.length], true, true⟩, ⟨[.int .i64 p, lv 3 j2 q2 i.length], true, true⟩] := List.prefix_append _ _
  have hx0 : Holds (H ++ [(⟨[.int .i64 p, lv 3 j1 q1 o.length, lv 3 j2 q2 i.length], true, true⟩ : Blk), ⟨[.int .i64 p, lv 3 j1 q1 o.length], true, true⟩, ⟨[.int .i64 p, lv 3 j2 q2 i.length], true, true⟩]) H.length [.int .i64 p, lv 3 j1 q1 o.length, lv 3 j2 q2 i.length] := ⟨true, by simp⟩
  have hx1 : Holds (H ++ [(⟨[.int .i64 p, lv 3 j1 q1 o.length, lv 3 j2 q2 i.length], true, true⟩ : Blk), ⟨[.int .i64 p, lv 3 j1 q1 o.length], true, true⟩, ⟨[.int .i64 p, lv 3 j2 q2 i.length], true, true⟩]) (H.length + 1) [.int .i64 p, lv 3 j1 q1 o.length] := ⟨true, by simp⟩
  have hx2 : Holds (H ++ [(⟨[.int .i64 p, lv 3 j1 q1 o.length, lv 3 j2 q2 i.length], true, true⟩ : Blk), ⟨[.int .i64 p, lv 3 j1 q1 o.length], true, true⟩, ⟨[.int .i64 p, lv 3 j2 q2 i.length], true, true⟩]) (H.length + 2) [.int .i64 p, lv 3 j2 q2 i.length] := ⟨true, by simp⟩
  generalize H ++ [(⟨[.int .i64 p, lv 3 j1 q1 o.length, lv 3 j2 q2 i.length], true, true⟩ : Blk), ⟨[.int .i64 p, lv 3 j1 q1 o.length], true, true⟩, ⟨[.int .i64 p, lv 3 j2 q2 i.length], true, true⟩] = H0 at hp0 hx0 hx1 hx2 ⊢
  refine l01Is' (hu.pre hp0) hl _ ?_
  intro H1 hp1
  obtain ⟨f0, f1, f2⟩ := (hx2.pre hp1).sys
  cases hs1 : sysB p o with
  | false =>
    have fin := h H1 (hp0.trans hp1)
    simp only [tradeB, hs1, Bool.false_and] at fin
    simp (maxSteps := 1000000) [go_sem, undef]
    exact fin
  | true =>
    have hS1 := sysB_of hs1
    simp (maxSteps := 1000000) [go_sem, f0]
    refine l01Is' (hw.pre (hp0.trans hp1)) hl' _ ?_
    intro H2 hp2
    have hp02 := hp0.trans (hp1.trans hp2)
    obtain ⟨d0, d1, d2, d3⟩ := (hx0.pre (hp1.trans hp2)).tr
    cases hs2 : sysB p i with
    | false =>
      have fin := h H2 hp02
      simp only [tradeB, hs1, hs2, Bool.false_and, Bool.and_false] at fin
      simp (maxSteps := 1000000) [go_sem, undef]
      exact fin
    | true =>
      have hS2 := sysB_of hs2
      simp (maxSteps := 1000000) [go_sem, d2, d3]
      refine l04Same_ok (hu.pre hp02) (hw.pre hp02) hS1.good15 hS2.good15 hl hl' _ ?_
      intro H3 hp3
      have hp03 := hp02.trans hp3
      cases hs3 : samePairs o i with
      | false =>
        have fin := h H3 hp03
        simp only [tradeB, hs1, hs2, hs3, Bool.and_false] at fin
        simp (maxSteps := 1000000) [go_sem]
        exact fin
      | true =>
        simp (maxSteps := 1000000) [go_sem]
        refine AWp.loopVc (fun s : Nat => [(1, .pointer (some ⟨H.length, 0, none⟩)), (5, .int .i64 s)])
          (fun s H' => s ≤ o.length ∧ H3 <+: H' ∧ ∀ b ∈ o.take s, memB i b = false) (fun s => o.length - s) 0 ?_ ?_ ?_
        · simp [upF, Fr.get, Up.refl]
        · exact ⟨by omega, List.prefix_refl _, by simp⟩
        · rintro K s H4 ⟨hs, hp4, hf⟩ hK
          obtain ⟨d0, d1, d2, d3⟩ := (hx0.pre ((hp1.trans hp2).trans (hp3.trans hp4))).tr
          have hu4 := hu.pre (hp03.trans hp4)
          have hw4 := hw.pre (hp03.trans hp4)
          obtain ⟨j, q, eu, g1, g2⟩ := hu4
          cases eu
          by_cases hlt : s < o.length
          · have hbs : o[s]? = some o[s] := List.getElem?_eq_getElem hlt
            have c1 := g1.bk hbs
            simp only [Bk.cells] at c1
            have htk := List.take_succ_eq_append_getElem hlt
            have hmem := List.mem_of_getElem? hbs
            generalize o[s] = b at *
            have hw_s : IntKind.i64.wrap ((s : Int) + 1) = (s : Int) + 1 := i64w (by omega) (by omega)
            simp (maxSteps := 1000000) [go_sem, hlt, d2]
            refine AWp.draw mixed [(0, false), (1, false), (2, false), (3, false), (4, false), (5, false), (6, false), (7, false)] (by kernel_rfl) ?_
            simp (maxSteps := 1000000) [go_sem, hlt, d2, d3, c1]
            refine l04Member_ok (b := b) hw4 _ ?_
            intro H5 hp5
            cases hm : memB i b with
            | true =>
              have fin := h H5 ((hp03.trans hp4).trans hp5)
              have e : ¬ bothB o i = [] := fun e => by rw [bothB_nil.1 e b hmem] at hm; cases hm
              simp only [tradeB, hs1, hs2, decide_eq_false e, Bool.false_and, Bool.and_false] at fin
              simp (maxSteps := 1000000) [go_sem]
              exact fin
            | false =>
              simp (maxSteps := 1000000) [go_sem, hw_s]
              refine hK (s + 1) _ _ (by omega) (by simp [upF, Fr.get, Up.refl]) ⟨by omega, hp4.trans hp5, ?_⟩
              intro x hx
              rw [htk, List.mem_append] at hx
              rcases hx with hx | hx
              · exact hf x hx
              · simp at hx; subst hx; exact hm
          · have : s = o.length := by omega
            subst this
            rw [List.take_length] at hf
            have fin := h H4 (hp03.trans hp4)
            have e : bothB o i = [] := bothB_nil.2 hf
            simp only [tradeB, hs1, hs2, hs3, e, decide_true, Bool.true_and] at fin
            simp (maxSteps := 1000000) [go_sem, d2]
            exact fin

end Go.Proofs.Ytdfeoccjllljiaa
end

section
/- Trades as arguments and results: shapes, sizes, copies, equality, marks. -/
set_option linter.all false
set_option maxRecDepth 20000
set_option maxHeartbeats 8000000
namespace Go.Proofs.Ytdfeoccjllljiaa
open Go.Ab

def shTrade : Shape := ⟨24, true, cFields [cInt .i64, cBks, cBks]⟩
theorem fits_shTrade {D : Type} {enc : TypeId × Value → D} (W : World) : shTrade.fits enc Try.prog W :=
  ⟨cFields_stable _ (by intro p hp; simp only [List.mem_cons, List.not_mem_nil, or_false] at hp; rcases hp with rfl | rfl | rfl; exact cInt_stable _; exact cSl_stable (cMany_stable (cInt_stable _) 3); exact cSl_stable (cMany_stable (cInt_stable _) 3)),
   open_cStruct Try.underlying24 (by kernel_rfl) ⟨by kernel_rfl, by kernel_rfl, cInt_stable _, open_cInt Try.underlying2, by kernel_rfl, by kernel_rfl, cSl_stable (cMany_stable (cInt_stable _) 3), open_bks W, by kernel_rfl, by kernel_rfl, cSl_stable (cMany_stable (cInt_stable _) 3), open_bks W, trivial⟩,
   by show (match Try.prog.underlying 24 with | _ => _); rw [Try.underlying24]; rfl⟩

def TradeAt0 (H : Heap) (u w : Value) (o i : List Bk) : Prop := BlocksAt0 H u o ∧ BlocksAt0 H w i
def TradeAt (H : Heap) (u w : Value) (o i : List Bk) : Prop := BlocksAt H u o ∧ BlocksAt H w i
theorem TradeAt0.pre {H H' : Heap} (hp : H <+: H') {u w : Value} {o i : List Bk} (h : TradeAt0 H u w o i) : TradeAt0 H' u w o i := ⟨h.1.pre hp, h.2.pre hp⟩
theorem TradeAt.pre {H H' : Heap} (hp : H <+: H') {u w : Value} {o i : List Bk} (h : TradeAt H u w o i) : TradeAt H' u w o i := ⟨h.1.pre hp, h.2.pre hp⟩
theorem TradeAt0.at {H : Heap} {u w : Value} {o i : List Bk} (h : TradeAt0 H u w o i) (hl : o.length ≤ 1048576 ∧ i.length ≤ 1048576) : TradeAt H u w o i := ⟨h.1.at (by omega), h.2.at (by omega)⟩
def TradeIn (a b : Nat) (H : Heap) (u w : Value) (o i : List Bk) : Prop := ∃ m, a ≤ m ∧ m ≤ b ∧ BlocksIn a m H u o ∧ BlocksIn m b H w i
theorem TradeIn.keep {a b : Nat} {H H' : Heap} {u w : Value} {o i : List Bk} (h : TradeIn a b H u w o i) {S : Nat → Prop} (hs : Same S H H') (hd : ∀ j, Span a b j → ¬ S j) : TradeIn a b H' u w o i := by
  obtain ⟨m, h1, h2, h3, h4⟩ := h
  exact ⟨m, h1, h2, h3.keep hs (fun j hj => hd j ⟨hj.1, by have := hj.2; omega⟩), h4.keep hs (fun j hj => hd j ⟨by have := hj.1; omega, hj.2⟩)⟩
theorem TradeIn.pre {a b : Nat} {H H' : Heap} (hp : H <+: H') {u w : Value} {o i : List Bk} (h : TradeIn a b H u w o i) : TradeIn a b H' u w o i := h.keep (S := fun _ => False) (Same.of_prefix hp) (fun _ _ h => h)
theorem TradeIn.read {a b : Nat} {H : Heap} {u w : Value} {o i : List Bk} (h : TradeIn a b H u w o i) : TradeAt H u w o i := by obtain ⟨m, _, _, h3, h4⟩ := h; exact ⟨h3.read, h4.read⟩
theorem TradeAt.one {H : Heap} {u w : Value} {o i : List Bk} (h : TradeAt H u w o i) : u.oneCell' = true ∧ w.oneCell' = true := ⟨h.1.one, h.2.one⟩
theorem TradeIn.wider {a b c : Nat} {H : Heap} {u w : Value} {o i : List Bk} (h : TradeIn a b H u w o i) (hc : c ≤ a) : TradeIn c b H u w o i := by
  obtain ⟨m, h1, h2, h3, h4⟩ := h; exact ⟨m, by omega, h2, h3.wider hc, h4⟩
theorem TradeIn.nil {a b : Nat} (h : a ≤ b) (H : Heap) : TradeIn a b H (lv 3 0 0 0) (lv 3 0 0 0) [] [] := ⟨a, Nat.le_refl _, h, BlocksIn.nil _ _ _, BlocksIn.nil _ _ _⟩
def MarkTr (a b : Nat) (H : Heap) (u w : Value) (k : Int) (n m : Nat) : Prop := ∃ c, a ≤ c ∧ c ≤ b ∧ MarkIn 3 a c H u k n ∧ MarkIn 3 c b H w (k + (n * 3 : Nat)) m
theorem MarkTr.keep {a b : Nat} {H H' : Heap} {u w : Value} {k : Int} {n m : Nat} (h : MarkTr a b H u w k n m) {S : Nat → Prop} (hs : Same S H H') (hd : ∀ j, Span a b j → ¬ S j) : MarkTr a b H' u w k n m := by
  obtain ⟨c, h1, h2, h3, h4⟩ := h
  exact ⟨c, h1, h2, h3.keep hs (fun j hj => hd j ⟨hj.1, by have := hj.2; omega⟩), h4.keep hs (fun j hj => hd j ⟨by have := hj.1; omega, hj.2⟩)⟩
theorem MarkTr.pre {a b : Nat} {H H' : Heap} (hp : H <+: H') {u w : Value} {k : Int} {n m : Nat} (h : MarkTr a b H u w k n m) : MarkTr a b H' u w k n m := h.keep (S := fun _ => False) (Same.of_prefix hp) (fun _ _ h => h)

theorem says_shTrade {H : Heap} {v : Value} (h : shTrade.says H v) : ∃ p u w o i, v = tradeV p u w ∧ In64 p ∧ TradeAt0 H u w o i := by
  obtain ⟨acs, rfl, x, us, rfl, ⟨p, h1, h2⟩, y, us', rfl, h3, z, us'', rfl, h4, rfl⟩ := h
  simp only [List.cons.injEq, and_true] at h1
  subst h1
  obtain ⟨bs, h5, h6⟩ := says_bks h3
  obtain ⟨cs, h7, h8⟩ := says_bks h4
  exact ⟨p, y, z, bs, cs, rfl, In64.of_wf h2, h5, h7⟩

theorem szTrade0_ok {H : Heap} {u w : Value} {p : Int} {o i : List Bk} {k : Int} (ht : TradeAt0 H u w o i) (hk0 : 0 ≤ k) (hk : k ≤ 1048576) (Post : Value → Heap → Prop)
    (h : ∀ H', H <+: H' → Post (.int .i64 (if k < o.length then -1 else if k - o.length < i.length then -1 else k - o.length - i.length)) H') :
    ACalls Try.prog 17 [tradeV p u w, .int .i64 k] H Post := by
  have ou : u.oneCell' = true := by obtain ⟨⟨a, b, rfl, _⟩, _⟩ := ht; rfl
  have ow : w.oneCell' = true := by obtain ⟨_, ⟨a, b, rfl, _⟩⟩ := ht; rfl
  refine acalls_vc (rs := [.tmp 4]) Try.func17 rfl rfl Try.ntmps17 rfl rfl ?_
  simp (maxSteps := 1000000) [go_sem, tradeV, ou, ow]
  have hp0 : H <+: H ++ [⟨[.int .i64 p, u, w], true, true⟩] := List.prefix_append _ _
  have hx0 := Holds.last H [.int .i64 p, u, w]
  generalize H ++ [(⟨[.int .i64 p, u, w], true, true⟩ : Blk)] = H0 at hp0 hx0 ⊢
  obtain ⟨d0, d1, d2, d3⟩ := hx0.tr
  have fin := h H0 hp0
  refine szBlockS0_ok (ht.1.pre hp0) hk0 hk _ ?_
  by_cases h1 : k < o.length
  · rw [if_pos h1] at fin ⊢
    simp (maxSteps := 1000000) [go_sem]
    exact fin
  · rw [if_neg h1] at fin ⊢
    have n1 : ¬ (k - (o.length : Int) < 0) := by omega
    simp (maxSteps := 1000000) [go_sem, n1, d3]
    refine szBlockS0_ok (ht.2.pre hp0) (by omega) (by omega) _ ?_
    by_cases h2 : k - o.length < i.length
    · rw [if_pos h2] at fin ⊢
      simp (maxSteps := 1000000) [go_sem]
      exact fin
    · rw [if_neg h2] at fin ⊢
      have n2 : ¬ (k - (o.length : Int) - i.length < 0) := by omega
      simp (maxSteps := 1000000) [go_sem, n2]
      exact fin

theorem toTr_ok {H : Heap} {u w : Value} {p : Int} {o i : List Bk} (ht : TradeAt H u w o i) (hl : o.length ≤ 1048576 ∧ i.length ≤ 1048576) (Post : Value → Heap → Prop)
    (h : ∀ H' v x, H <+: H' → TradeIn H.length H'.length H' v x o i → Post (tradeV p v x) H') : ACalls Try.prog 19 [tradeV p u w] H Post := by
  obtain ⟨ou, ow⟩ := ht.one
  refine acalls_vc (rs := [.cell 2 30]) Try.func19 rfl rfl Try.ntmps19 rfl rfl ?_
  simp (maxSteps := 1000000) [go_sem, tradeV, ou, ow]
  have hp0 : H <+: H ++ [⟨[.int .i64 p, u, w], true, true⟩, ⟨[.int .i64 0, .slice none 0 0, .slice none 0 0], true, true⟩, ⟨[.int .i64 p, .slice none 0 0, .slice none 0 0], true, true⟩] := List.prefix_append _ _
  have hx0 : Holds (H ++ [(⟨[.int .i64 p, u, w], true, true⟩ : Blk), ⟨[.int .i64 0, .slice none 0 0, .slice none 0 0], true, true⟩, ⟨[.int .i64 p, .slice none 0 0, .slice none 0 0], true, true⟩]) H.length [.int .i64 p, u, w] := ⟨true, by simp⟩
  have hy0 : (H ++ [(⟨[.int .i64 p, u, w], true, true⟩ : Blk), ⟨[.int .i64 0, .slice none 0 0, .slice none 0 0], true, true⟩, ⟨[.int .i64 p, .slice none 0 0, .slice none 0 0], true, true⟩])[H.length + 1]? = some ⟨[.int .i64 0, .slice none 0 0, .slice none 0 0], true, true⟩ := by simp
  have hz0 : (H ++ [(⟨[.int .i64 p, u, w], true, true⟩ : Blk), ⟨[.int .i64 0, .slice none 0 0, .slice none 0 0], true, true⟩, ⟨[.int .i64 p, .slice none 0 0, .slice none 0 0], true, true⟩])[H.length + 2]? = some ⟨[.int .i64 p, .slice none 0 0, .slice none 0 0], true, true⟩ := by simp
  have hlen : (H ++ [(⟨[.int .i64 p, u, w], true, true⟩ : Blk), ⟨[.int .i64 0, .slice none 0 0, .slice none 0 0], true, true⟩, ⟨[.int .i64 p, .slice none 0 0, .slice none 0 0], true, true⟩]).length = H.length + 3 := by simp
  generalize H ++ [(⟨[.int .i64 p, u, w], true, true⟩ : Blk), ⟨[.int .i64 0, .slice none 0 0, .slice none 0 0], true, true⟩, ⟨[.int .i64 p, .slice none 0 0, .slice none 0 0], true, true⟩] = H0 at hp0 hx0 hy0 hz0 hlen ⊢
  refine toBlockS_ok (ht.1.pre hp0) _ hl.1 ?_
  intro H1 v1 id1 hp1 hid1 ho1
  have e1 := ho1.1
  subst e1
  have hz1 : H1[H.length + 2]? = _ := Same.get (S := fun _ => False) (Same.of_prefix hp1) hz0 (fun h => h)
  have one1 : (lv 3 id1 0 o.length).oneCell' = true := rfl
  have st1 : storeAt H1 (H.length + 2) 1 [(lv 3 id1 0 o.length)] = some (H1.set (H.length + 2) ⟨[.int .i64 p, (lv 3 id1 0 o.length), .slice none 0 0], true, true⟩) := by
    rw [storeAt_of hz1 rfl rfl (by simp) (by simp [one1])]; rfl
  have hlt1 := (List.getElem?_eq_some_iff.1 hz1).1
  have hz2 : (H1.set (H.length + 2) ⟨[.int .i64 p, (lv 3 id1 0 o.length), .slice none 0 0], true, true⟩)[H.length + 2]? = some ⟨[.int .i64 p, (lv 3 id1 0 o.length), .slice none 0 0], true, true⟩ := List.getElem?_set_self hlt1
  have hs1 : Same (fun k => k = H.length + 2) H1 (H1.set (H.length + 2) ⟨[.int .i64 p, (lv 3 id1 0 o.length), .slice none 0 0], true, true⟩) := same_set
  have hsA : Same (fun k => k = H.length + 2) H0 (H1.set (H.length + 2) ⟨[.int .i64 p, (lv 3 id1 0 o.length), .slice none 0 0], true, true⟩) := (Same.of_prefix hp1).trans hs1
  simp (maxSteps := 1000000) [go_sem, st1]
  have hlA : (H1.set (H.length + 2) ⟨[.int .i64 p, (lv 3 id1 0 o.length), .slice none 0 0], true, true⟩).length = H1.length := by simp
  generalize H1.set (H.length + 2) ⟨[.int .i64 p, (lv 3 id1 0 o.length), .slice none 0 0], true, true⟩ = HA at *
  have hpA : H <+: HA := ((Same.of_prefix (S := fun k => k = H.length + 2) hp0).trans hsA).prefix (by intro j hj e; omega)
  have hxA := hx0.keepS hsA (by omega)
  obtain ⟨d0, d1, d2, d3⟩ := hxA.tr
  simp (maxSteps := 1000000) [go_sem, d3]
  refine toBlockS_ok (ht.2.pre hpA) _ hl.2 ?_
  intro H2 v2 id2 hp2 hid2 ho2
  have e2 := ho2.1
  subst e2
  have one2 : (lv 3 id2 0 i.length).oneCell' = true := rfl
  have hzB : H2[H.length + 2]? = _ := Same.get (S := fun _ => False) (Same.of_prefix hp2) hz2 (fun h => h)
  have st2 : storeAt H2 (H.length + 2) 2 [(lv 3 id2 0 i.length)] = some (H2.set (H.length + 2) ⟨[.int .i64 p, (lv 3 id1 0 o.length), (lv 3 id2 0 i.length)], true, true⟩) := by
    rw [storeAt_of hzB rfl rfl (by simp) (by simp [one2])]; rfl
  have hltB := (List.getElem?_eq_some_iff.1 hzB).1
  have hzC : (H2.set (H.length + 2) ⟨[.int .i64 p, (lv 3 id1 0 o.length), (lv 3 id2 0 i.length)], true, true⟩)[H.length + 2]? = some ⟨[.int .i64 p, (lv 3 id1 0 o.length), (lv 3 id2 0 i.length)], true, true⟩ := List.getElem?_set_self hltB
  have hsC : Same (fun k => k = H.length + 2) H2 (H2.set (H.length + 2) ⟨[.int .i64 p, (lv 3 id1 0 o.length), (lv 3 id2 0 i.length)], true, true⟩) := same_set
  have hlC : (H2.set (H.length + 2) ⟨[.int .i64 p, (lv 3 id1 0 o.length), (lv 3 id2 0 i.length)], true, true⟩).length = H2.length := by simp
  simp (maxSteps := 1000000) [go_sem, st2]
  generalize H2.set (H.length + 2) ⟨[.int .i64 p, (lv 3 id1 0 o.length), (lv 3 id2 0 i.length)], true, true⟩ = HC at *
  have hs02 : Same (fun k => k = H.length + 2) H0 HC := hsA.trans ((Same.of_prefix hp2).trans hsC)
  have hyC := hs02.get hy0 (by omega)
  have hltC := (List.getElem?_eq_some_iff.1 hyC).1
  have ldC : cellsAt HC (H.length + 2) 0 3 = some [.int .i64 p, (lv 3 id1 0 o.length), (lv 3 id2 0 i.length)] := by rw [cellsAt_of hzC rfl (by simp)]; rfl
  have st3 : storeAt HC (H.length + 1) 0 [.int .i64 p, (lv 3 id1 0 o.length), (lv 3 id2 0 i.length)] = some (HC.set (H.length + 1) ⟨[.int .i64 p, (lv 3 id1 0 o.length), (lv 3 id2 0 i.length)], true, true⟩) := by
    rw [storeAt_of hyC rfl rfl (by simp) (by simp [one1, one2, Value.oneCell'])]; rfl
  have hsD : Same (fun k => k = H.length + 1) HC (HC.set (H.length + 1) ⟨[.int .i64 p, (lv 3 id1 0 o.length), (lv 3 id2 0 i.length)], true, true⟩) := same_set
  have hyD : (HC.set (H.length + 1) ⟨[.int .i64 p, (lv 3 id1 0 o.length), (lv 3 id2 0 i.length)], true, true⟩)[H.length + 1]? = some ⟨[.int .i64 p, (lv 3 id1 0 o.length), (lv 3 id2 0 i.length)], true, true⟩ := List.getElem?_set_self hltC
  have hlD : (HC.set (H.length + 1) ⟨[.int .i64 p, (lv 3 id1 0 o.length), (lv 3 id2 0 i.length)], true, true⟩).length = HC.length := by simp
  simp (maxSteps := 1000000) [go_sem, ldC, st3]
  generalize HC.set (H.length + 1) ⟨[.int .i64 p, (lv 3 id1 0 o.length), (lv 3 id2 0 i.length)], true, true⟩ = HD at *
  have ldD : cellsAt HD (H.length + 1) 0 3 = some [.int .i64 p, (lv 3 id1 0 o.length), (lv 3 id2 0 i.length)] := by rw [cellsAt_of hyD rfl (by simp)]; rfl
  have hle1 := hp1.length_le
  have hle2 := hp2.length_le
  have b1 : BlocksIn H.length H1.length H1 (lv 3 id1 0 o.length) o := (OwnBlocks.inn ho1 (by omega)).wider (by omega)
  have b2 : BlocksIn HA.length H2.length H2 (lv 3 id2 0 i.length) i := OwnBlocks.inn ho2 hid2
  have hin : TradeIn H.length HD.length HD (lv 3 id1 0 o.length) (lv 3 id2 0 i.length) o i := by
    have hid : o ≠ [] → H0.length ≤ id1 := fun _ => hid1
    refine ⟨H1.length, by omega, by omega, ?_, ?_⟩
    · have b1' : BlocksIn H0.length H1.length H1 (lv 3 id1 0 o.length) o := OwnBlocks.inn ho1 hid1
      have b1A : BlocksIn H0.length H1.length HA (lv 3 id1 0 o.length) o := b1'.keep hs1 (fun j hj e => by have := hj.1; omega)
      have b1B := b1A.pre hp2
      have b1C : BlocksIn H0.length H1.length HC (lv 3 id1 0 o.length) o := b1B.keep hsC (fun j hj e => by have := hj.1; omega)
      exact (b1C.keep hsD (fun j hj e => by have := hj.1; omega)).wider (by omega)
    · have b2C : BlocksIn HA.length H2.length HC (lv 3 id2 0 i.length) i := b2.keep hsC (fun j hj e => by have := hj.1; omega)
      have b2D : BlocksIn HA.length H2.length HD (lv 3 id2 0 i.length) i := b2C.keep hsD (fun j hj e => by have := hj.1; omega)
      rw [hlA, ← hlC, ← hlD] at b2D
      exact b2D
  have hpD : H <+: HD := ((Same.of_prefix (S := fun k => k = H.length + 1 ∨ k = H.length + 2) hp0).trans ((hs02.mono fun _ _ e => .inr e).trans (hsD.mono fun _ _ e => .inl e))).prefix (by intro j hj e; omega)
  have fin := h HD (lv 3 id1 0 o.length) (lv 3 id2 0 i.length) hpD hin
  simp (maxSteps := 1000000) [go_sem, ldD]
  exact fin

end Go.Proofs.Ytdfeoccjllljiaa
end

section
/- Trades: equality, marks. -/
set_option linter.all false
set_option maxRecDepth 20000
set_option maxHeartbeats 8000000
namespace Go.Proofs.Ytdfeoccjllljiaa
open Go.Ab

theorem eqTrade_ok {H : Heap} {u w u' w' : Value} {p q : Int} {o i o' i' : List Bk} (h1 : TradeAt H u w o i) (h2 : TradeAt H u' w' o' i') (Post : Value → Heap → Prop)
    (h : ∀ H', H <+: H' → Post (.bool (decide (p = q ∧ o = o' ∧ i = i'))) H') : ACalls Try.prog 21 [tradeV p u w, tradeV q u' w'] H Post := by
  obtain ⟨a1, a2⟩ := h1.one
  obtain ⟨b1, b2⟩ := h2.one
  refine acalls_vc (rs := [.tmp 4]) Try.func21 rfl rfl Try.ntmps21 rfl rfl ?_
  simp (maxSteps := 1000000) [go_sem, tradeV, a1, a2, b1, b2]
  have hp0 : H <+: H ++ [⟨[.int .i64 p, u, w], true, true⟩, ⟨[.int .i64 q, u', w'], true, true⟩] := List.prefix_append _ _
  have hx0 : Holds (H ++ [(⟨[.int .i64 p, u, w], true, true⟩ : Blk), ⟨[.int .i64 q, u', w'], true, true⟩]) H.length [.int .i64 p, u, w] := ⟨true, by simp⟩
  have hy0 : Holds (H ++ [(⟨[.int .i64 p, u, w], true, true⟩ : Blk), ⟨[.int .i64 q, u', w'], true, true⟩]) (H.length + 1) [.int .i64 q, u', w'] := ⟨true, by simp⟩
  generalize H ++ [(⟨[.int .i64 p, u, w], true, true⟩ : Blk), ⟨[.int .i64 q, u', w'], true, true⟩] = H0 at hp0 hx0 hy0 ⊢
  refine condK_intro (fun hne => ?_) (fun heq => ?_)
  · have : ¬ p = q := by simpa using hne
    simpa [this] using h H0 hp0
  · have : p = q := by simpa using heq
    subst this
    refine eqBlockS_ok (h1.1.pre hp0) (h2.1.pre hp0) _ ?_
    intro H1 hp1
    obtain ⟨d0, d1, d2, d3⟩ := (hx0.pre hp1).tr
    obtain ⟨e0, e1, e2, e3⟩ := (hy0.pre hp1).tr
    by_cases ho : o = o'
    · subst ho
      simp (maxSteps := 1000000) [go_sem, d3, e3]
      refine eqBlockS_ok (h1.2.pre (hp0.trans hp1)) (h2.2.pre (hp0.trans hp1)) _ ?_
      intro H2 hp2
      have fin := h H2 (hp0.trans (hp1.trans hp2))
      by_cases hi : i = i'
      · subst hi
        simp (maxSteps := 1000000) [go_sem]
        simpa using fin
      · simp (maxSteps := 1000000) [go_sem, hi]
        simpa [hi] using fin
    · have fin := h H1 (hp0.trans hp1)
      simp (maxSteps := 1000000) [go_sem, ho]
      simpa [ho] using fin

theorem markTr_ok {a b : Nat} {H : Heap} {u w : Value} {p : Int} {o i : List Bk} {k : Int} (ht : TradeIn a b H u w o i) (hb : b ≤ H.length) (hl : o.length ≤ 1048576 ∧ i.length ≤ 1048576) (hk0 : 0 ≤ k) (hk : k ≤ 100000000) (Post : Value → Heap → Prop)
    (hP : ∀ H', Same (Span a b) H H' → MarkTr a b H' u w k o.length i.length → Post (.int .i64 (k + ((o.length + i.length) * 3 : Nat))) H') : ACalls Try.prog 32 [tradeV p u w, .int .i64 k] H Post := by
  obtain ⟨a1, a2⟩ := ht.read.one
  obtain ⟨m, hm1, hm2, h1, h2⟩ := ht
  refine acalls_vc (rs := [.tmp 4]) Try.func32 rfl rfl Try.ntmps32 rfl rfl ?_
  simp (maxSteps := 1000000) [go_sem, tradeV, a1, a2]
  have hp0 : H <+: H ++ [⟨[.int .i64 p, u, w], true, true⟩] := List.prefix_append _ _
  have hx0 := Holds.last H [.int .i64 p, u, w]
  generalize H ++ [(⟨[.int .i64 p, u, w], true, true⟩ : Blk)] = H0 at hp0 hx0 ⊢
  refine markBlocks_ok (h1.pre hp0) hk0 (by omega) _ ?_
  intro H1 hs1 hm1'
  have hx1 := hx0.keepS hs1 (by rintro ⟨e1, e2⟩; omega)
  obtain ⟨d0, d1, d2, d3⟩ := hx1.tr
  have h2' := (h2.pre hp0).keep hs1 (by rintro j ⟨e1, e2⟩ ⟨e3, e4⟩; omega)
  obtain ⟨n, hn⟩ : ∃ n : Nat, n = o.length * 3 := ⟨_, rfl⟩
  rw [← hn]
  have hc : k + ((o.length * 3 : Nat) : Int) = k + n := by rw [hn]
  simp (maxSteps := 1000000) [go_sem, d3]
  refine markBlocks_ok h2' (by omega) (by omega) _ ?_
  intro H2 hs2 hm2'
  have hs : Same (Span a b) H H2 := (Same.of_prefix hp0).trans ((hs1.mono fun j _ ⟨e1, e2⟩ => ⟨e1, by omega⟩).trans (hs2.mono fun j _ ⟨e1, e2⟩ => ⟨by omega, e2⟩))
  have fin := hP H2 hs ⟨m, hm1, hm2, hm1'.keep hs2 (by rintro j ⟨e1, e2⟩ ⟨e3, e4⟩; omega), by rw [hc]; exact hm2'⟩
  have e : k + (((o.length + i.length) * 3 : Nat) : Int) = k + (n : Int) + ((i.length * 3 : Nat) : Int) := by rw [hn]; omega
  rw [e] at fin
  simp (maxSteps := 1000000) [go_sem]
  simpa using fin

theorem implIsTradeT {H : Heap} {u w : Value} {p : Int} {o i : List Bk} (ht : TradeAt H u w o i) (hl : o.length ≤ 1048576 ∧ i.length ≤ 1048576) (Post : Value → Heap → Prop) (h : ∀ H', H <+: H' → Post (.bool (tradeB p o i)) H') :
    ACalls Try.prog 74 [tradeV p u w] H Post := implIsTrade ht.1 ht.2 Post h

end Go.Proofs.Ytdfeoccjllljiaa
end

section
/- InverseTrade, FitsSystem. -/
set_option linter.all false
set_option maxRecDepth 20000
set_option maxHeartbeats 8000000
namespace Go.Proofs.Ytdfeoccjllljiaa
open Go.Ab Go.Sort

theorem put3 {H H0 H' : Heap} {id : Nat} {cs0 cs : List Value} (hp0 : H <+: H0) (hid : H.length ≤ id) (hb0 : H0[id]? = some ⟨cs0, true, true⟩) (h2 : cs0.length = 3) (hp : H0 <+: H') (hcl : cs.length = 3) (ho : cs.all Value.oneCell' = true) :
    storeAt H' id 0 cs = some (H'.set id ⟨cs, true, true⟩) ∧ cellsAt (H'.set id ⟨cs, true, true⟩) id 0 3 = some cs ∧ H <+: H'.set id ⟨cs, true, true⟩ ∧ Same (fun j => j = id) H' (H'.set id ⟨cs, true, true⟩) := by
  have hb' := Same.get (S := fun _ => False) (Same.of_prefix hp) hb0 (fun h => h)
  have hsame : Same (fun j => j = id) H' (H'.set id ⟨cs, true, true⟩) := ⟨by simp, fun j hj hS => List.getElem?_set_ne (fun e => hS e.symm)⟩
  refine ⟨?_, ?_, ((Same.of_prefix (hp0.trans hp)).trans hsame).prefix (by intro j hj he; omega), hsame⟩
  · rw [storeAt_of hb' rfl rfl (by simp [hcl, h2]) ho]
    match cs, hcl, cs0, h2 with
    | [x, y, z], _, [a, b, c], _ => simp [over]
  · have := Holds.cells (n := 3) (o := 0) (H := H'.set id ⟨cs, true, true⟩) ⟨true, List.getElem?_set_self (List.getElem?_eq_some_iff.1 hb').1⟩ (by omega)
    rw [this, List.drop_zero, List.take_of_length_le (by omega)]

theorem zeroTr {H : Heap} : Up H (.agg #[.int .i64 0, .slice none 0 0, .slice none 0 0]) (tradeV 0 (lv 3 0 0 0) (lv 3 0 0 0)) := Up.agg ⟨Up.refl _ _, Up.nil _ _ _ _, Up.nil _ _ _ _, trivial⟩

noncomputable def rInv (p : Int) (o i : List Bk) : (Int × List Bk × List Bk) × Int := if tradeB p o i then ((p, i, o), 0) else ((0, [], []), 1)
theorem tradeB_sys {p : Int} {o i : List Bk} (h : tradeB p o i = true) : IsSys p o ∧ IsSys p i := by
  unfold tradeB at h
  rw [Bool.and_eq_true, Bool.and_eq_true] at h
  exact ⟨sysB_of h.1, sysB_of h.2.1⟩
theorem rInv_len (p : Int) (o i : List Bk) : (rInv p o i).1.2.1.length ≤ 1048576 ∧ (rInv p o i).1.2.2.length ≤ 1048576 := by
  unfold rInv
  split
  · rename_i h
    obtain ⟨h1, h2⟩ := tradeB_sys h
    have := h1.2.1; have := h2.2.1
    simp only; omega
  · simp
theorem sys_sort {p : Int} {bs : List Bk} (h : IsSys p bs) : sortB bs = bs := sortB_asc (asc_of _ rfl h.2.2.1)

theorem l04Made_ok {H : Heap} {u w : Value} {p : Int} {o i : List Bk} (hu : BlocksAt H u o) (hw : BlocksAt H w i) (hl : o.length ≤ 1048576) (hl' : i.length ≤ 1048576) (Post : Value → Heap → Prop)
    (h : ∀ H' v x, H <+: H' → TradeIn H.length H'.length H' v x (sortB o) (sortB i) → Post (tradeV p v x) H') : ACalls Try.prog 87 [.int .i64 p, u, w] H Post := by
  refine acalls_vc (rs := [.cell 6 30]) Try.func87 rfl rfl Try.ntmps87 rfl rfl ?_
  simp (maxSteps := 1000000) [go_sem]
  have hp0 : H <+: H ++ [⟨[.int .i64 0, .slice none 0 0, .slice none 0 0], true, true⟩] := List.prefix_append _ _
  have hb0 : (H ++ [(⟨[.int .i64 0, .slice none 0 0, .slice none 0 0], true, true⟩ : Blk)])[H.length]? = some ⟨[.int .i64 0, .slice none 0 0, .slice none 0 0], true, true⟩ := by simp
  have hlen : (H ++ [(⟨[.int .i64 0, .slice none 0 0, .slice none 0 0], true, true⟩ : Blk)]).length = H.length + 1 := by simp
  generalize H ++ [(⟨[.int .i64 0, .slice none 0 0, .slice none 0 0], true, true⟩ : Blk)] = H0 at hp0 hb0 hlen ⊢
  refine l01Sort_ok (hu.pre hp0) hl _ ?_
  intro H1 v1 hp1 hv1
  simp (maxSteps := 1000000) [go_sem]
  refine l01Sort_ok (hw.pre (hp0.trans hp1)) hl' _ ?_
  intro H2 v2 hp2 hv2
  have hv1' := hv1.pre hp2
  have hv2' := hv2
  obtain ⟨id1, ⟨rfl, _⟩, _⟩ := hv1
  obtain ⟨id2, ⟨rfl, _⟩, _⟩ := hv2
  obtain ⟨q1, q2, q3, q4⟩ := put3 (cs := [.int .i64 p, lv 3 id1 0 (sortB o).length, lv 3 id2 0 (sortB i).length]) hp0 (Nat.le_refl _) hb0 rfl (hp1.trans hp2) rfl rfl
  have hle1 := hp1.length_le
  have hle2 := hp2.length_le
  simp (maxSteps := 1000000) [go_sem, q1, q2]
  refine h _ _ _ q3 ?_
  rw [List.length_set]
  exact ⟨H1.length, by omega, by omega, (hv1'.keep q4 (fun j hj e => by have := hj.1; omega)).wider (by omega), hv2'.keep q4 (fun j hj e => by have := hj.1; omega)⟩

end Go.Proofs.Ytdfeoccjllljiaa
end

section
/- FitsSystem, both sides. -/
set_option linter.all false
set_option maxRecDepth 20000
set_option maxHeartbeats 8000000
namespace Go.Proofs.Ytdfeoccjllljiaa
open Go.Ab Go.Sort

noncomputable def rFits (p : Int) (bs : List Bk) (q : Int) (o i : List Bk) : Bool × Int := if sysB p bs && tradeB q o i then (fitsB p bs q o, 0) else (false, 1)

theorem filter_len {α : Type} (f : α → Bool) : ∀ l : List α, (decide ((l.filter f).length = l.length)) = l.all f
  | [] => rfl
  | x :: l => by
    have ih := filter_len f l
    have hle := List.length_filter_le f l
    cases h : f x with
    | true => simp [h, ← ih]
    | false =>
      simp only [List.filter_cons, h, List.all_cons, Bool.false_and]
      simp only [Bool.false_eq_true, if_false, List.length_cons]
      exact decide_eq_false (by omega)

end Go.Proofs.Ytdfeoccjllljiaa
end

section
/- The blocks of a list that are not in another one: both sides (slices.DeleteFunc over blocks). -/
set_option linter.all false
set_option maxRecDepth 20000
set_option maxHeartbeats 8000000
namespace Go.Proofs.Ytdfeoccjllljiaa
open Go.Ab Go.Sort

/-- A block of which only the first cells are told. -/
theorem _root_.Go.Ab.upH.cut {H : Heap} {id : Nat} {cs cs' : List Value} {li ow : Bool} (hb : H[id]? = some ⟨cs ++ cs', li, ow⟩) : upH H (H.set id ⟨cs, li, ow⟩) := by
  intro B w0 ρ w hR
  have hlt := (List.getElem?_eq_some_iff.1 hb).1
  have key : ∀ (i : Nat) (b : Blk), (H.set id ⟨cs, li, ow⟩)[i]? = some b → (i = id ∧ b = ⟨cs, li, ow⟩) ∨ (i ≠ id ∧ H[i]? = some b) := by
    intro i b h
    by_cases e : i = id
    · subst e; rw [List.getElem?_set_self hlt] at h; exact .inl ⟨rfl, (Option.some.inj h).symm⟩
    · rw [List.getElem?_set_ne (fun h => e h.symm)] at h; exact .inr ⟨e, h⟩
  have old : ∀ (i : Nat) (b : Blk), (H.set id ⟨cs, li, ow⟩)[i]? = some b → ∃ b', H[i]? = some b' ∧ b'.live = b.live ∧ b'.own = b.own := by
    intro i b h
    rcases key i b h with ⟨rfl, rfl⟩ | ⟨_, h⟩
    · exact ⟨_, hb, rfl, rfl⟩
    · exact ⟨b, h, rfl, rfl⟩
  refine ⟨by rw [List.length_set]; exact hR.len, hR.below, hR.base, ?_, ?_, ?_⟩
  · intro i b l h hl' hlive
    rcases key i b h with ⟨rfl, rfl⟩ | ⟨_, h⟩
    · obtain ⟨arr, elem, fz, h1, h2, h3, h4⟩ := hR.blk i _ l hb hl' hlive
      refine ⟨arr, elem, fz, h1, h2, ?_, h4⟩
      intro k v hk
      exact h3 k v (by rw [List.getElem?_append_left (List.getElem?_eq_some_iff.1 hk).1]; exact hk)
    · exact hR.blk i b l h hl' hlive
  · intro i j b c l m hij h1 h2 h3 h4 h5 h6 h7
    obtain ⟨b', e1, e2, e3⟩ := old i b h1
    obtain ⟨c', f1, f2, f3⟩ := old j c h2
    exact hR.apart i j b' c' l m hij e1 f1 h3 h4 (by rw [e2]; exact h5) (by rw [f2]; exact h6) (by rw [e3]; exact h7)
  · intro i b l h1 h2 h3 h4
    obtain ⟨b', e1, e2, e3⟩ := old i b h1
    exact hR.ghost i b' l e1 h2 (by rw [e2]; exact h3) (by rw [e3]; exact h4)

/-- A function value that tells of blocks, whatever stands in the block id. -/
def TellsS (g : FuncId) (fs cs : List Value) (P : Bk → Bool) (id : Nat) (H : Heap) : Prop :=
  ∀ (H' : Heap) (x : Bk) (Post : Value → Heap → Prop), Same (fun k => k = id) H H' → (∀ H'', H' <+: H'' → Post (.bool (P x)) H'') → ACalls Try.prog g (fs ++ x.val :: cs) H' Post

theorem deleteFunc0_ok {H : Heap} {id : Nat} {g : FuncId} {fs cs : List Value} (Post : Value → Heap → Prop) (h : ∀ H', H <+: H' → Post (lv 3 id 0 0) H') :
    ACalls Try.prog 143 [lv 3 id 0 0, .func (.func g) fs.toArray cs.toArray] H Post := by
  refine acalls_vc (rs := [.tmp 4]) Try.func143 rfl rfl Try.ntmps143 rfl rfl ?_
  simp (maxSteps := 1000000) [go_sem]
  refine indexFuncB_ok (P := fun _ => true) (xs := []) ⟨id, 0, rfl, .inl rfl, by simp⟩ (fun H' x Post _ hx => by cases hx) _ ?_
  intro H1 n hp1 hn
  have : n = -1 := by
    rcases hn with ⟨e, _⟩ | ⟨s, x, _, e, _⟩
    · exact e
    · simp at e
  subst this
  simp (maxSteps := 1000000) [go_sem]
  exact h H1 hp1

theorem deleteFuncB_ok {H : Heap} {id n : Nat} {xs : List Bk} {g : FuncId} {fs cs : List Value} {P : Bk → Bool} (hb : H[id]? = some ⟨tri xs, true, true⟩) (hn : xs.length = n) (hl : n ≤ 1048576) (hf : TellsS g fs cs P id H) (Post : Value → Heap → Prop)
    (h : ∀ (H' : Heap) (rest : List Value), Same (fun k => k = id) H H' → H'[id]? = some ⟨tri (xs.filter fun x => !P x) ++ rest, true, true⟩ → Post (lv 3 id 0 (xs.filter fun x => !P x).length) H') :
    ACalls Try.prog 143 [lv 3 id 0 n, .func (.func g) fs.toArray cs.toArray] H Post := by
  refine acalls_vc (rs := [.tmp 4]) Try.func143 rfl rfl Try.ntmps143 rfl rfl ?_
  simp (maxSteps := 1000000) [go_sem]
  subst hn
  refine indexFuncB_ok (P := P) (xs := xs) ⟨id, 0, rfl, Holds.at ⟨true, hb⟩, by omega⟩ (fun H' x Post hp _ hk => hf H' x Post (Same.of_prefix hp) hk) _ ?_
  intro H1 m hp1 hm
  have hb1 : H1[id]? = some ⟨tri xs, true, true⟩ := Same.get (S := fun _ => False) (Same.of_prefix hp1) hb (fun h => h)
  have hS1 : Same (fun k => k = id) H H1 := Same.of_prefix hp1
  rcases hm with ⟨rfl, hall⟩ | ⟨k, x, rfl, hk, hPk, hbefore⟩
  · have e : (xs.filter fun x => !P x) = xs := List.filter_eq_self.2 fun x hx => by simp [hall x hx]
    rw [e] at h
    have fin := h H1 [] hS1 (by simpa using hb1)
    simp (maxSteps := 1000000) [go_sem]
    exact fin
  · have hkl := (List.getElem?_eq_some_iff.1 hk).1
    have ek : ((k : Int) == -1) = false := by rw [beq_eq_false_iff_ne]; omega
    have ek' : ¬ (k : Int) = -1 := by omega
    have hw_k : IntKind.i64.wrap ((k : Int) + 1) = (k : Int) + 1 := i64w (by omega) (by omega)
    have f0 : (xs.take k).filter (fun x => !P x) = xs.take k := List.filter_eq_self.2 fun x hx => by simp [hbefore x hx]
    have hxk : xs[k] = x := (List.getElem?_eq_some_iff.1 hk).2
    simp (maxSteps := 1000000) [go_sem, ek, ek', hw_k]
    refine AWp.loopVc (St := Nat × Nat × List Bk) (fun s => [(0, lv 3 id 0 xs.length), (1, .func (.func g) fs.toArray cs.toArray), (5, .int .i64 s.1), (6, .int .i64 s.2.1)])
      (fun s H' => s.1 < s.2.1 ∧ s.2.1 ≤ xs.length ∧ s.2.2.length = xs.length ∧ s.2.2.take s.1 = (xs.take s.2.1).filter (fun x => !P x) ∧ s.2.2.drop s.2.1 = xs.drop s.2.1 ∧ Same (fun k => k = id) H H' ∧ H'[id]? = some ⟨tri s.2.2, true, true⟩) (fun s => xs.length - s.2.1) (k, k + 1, xs) ?_ ?_ ?_
    · simp [upF, Fr.get, Up.refl]
    · refine ⟨by simp, by simp only; omega, rfl, ?_, rfl, hS1, hb1⟩
      simp only
      rw [List.take_succ_eq_append_getElem hkl, List.filter_append, f0, hxk]
      simp [hPk]
    · rintro K ⟨i, j, d⟩ H2 ⟨hij, hj, hd, htk, hdr, hS2, hb2⟩ hK
      simp only at hij hj hd htk hdr hS2 hb2
      by_cases hlt : j < xs.length
      · have hw_j : IntKind.i64.wrap ((j : Int) + 1) = (j : Int) + 1 := i64w (by omega) (by omega)
        have hw_i : IntKind.i64.wrap ((i : Int) + 1) = (i : Int) + 1 := i64w (by omega) (by omega)
        have hdj : d[j]? = some xs[j] := by
          have := congrArg (fun z : List Bk => z[0]?) hdr
          simp only [List.getElem?_drop, Nat.add_zero] at this
          rw [this]; exact List.getElem?_eq_getElem hlt
        have hatd : At H2 id 0 (tri d) := Holds.at ⟨true, hb2⟩
        have c1 := hatd.bk hdj
        rw [Nat.zero_add] at c1
        have hxt := List.take_succ_eq_append_getElem hlt
        have hxd : xs.drop (j + 1) = d.drop (j + 1) := by
          have := congrArg (List.drop 1) hdr
          rw [List.drop_drop, List.drop_drop] at this
          exact this.symm
        generalize xs[j] = v at *
        simp only [Bk.cells] at c1
        simp (maxSteps := 1000000) [go_sem, hlt, c1]
        have hp3 : H2 <+: H2 ++ [⟨[.int .i64 v.a, .int .i64 v.b, .int .i64 v.c], true, true⟩] := List.prefix_append _ _
        have hx3 := Holds.last H2 [.int .i64 v.a, .int .i64 v.b, .int .i64 v.c]
        have hidl := (List.getElem?_eq_some_iff.1 hb2).1
        refine hf _ v _ (hS2.via (Same.of_prefix (S := fun _ => False) hp3) (fun _ _ h => h.elim)) ?_
        intro H4 hp4
        have hS4 : Same (fun k => k = id) H H4 := hS2.via (Same.of_prefix (S := fun _ => False) (hp3.trans hp4)) (fun _ _ h => h.elim)
        have hb4 : H4[id]? = some ⟨tri d, true, true⟩ := Same.get (S := fun _ => False) (Same.of_prefix (hp3.trans hp4)) hb2 (fun h => h)
        obtain ⟨e0, e1, e2, e3⟩ := (hx3.pre hp4).bk
        cases hP : P v with
        | true =>
          simp (maxSteps := 1000000) [go_sem, hw_j]
          refine hK (i, j + 1, d) _ _ (by simp only; omega) (by simp [upF, Fr.get, Up.refl]) ⟨by simp only; omega, by simp only; omega, hd, ?_, hxd.symm, hS4, hb4⟩
          simp only
          rw [hxt, List.filter_append, ← htk]
          simp [hP]
        | false =>
          have hst := storeBk (b := v) (s := i) hb4 (by omega)
          simp only [Bk.cells] at hst
          have hil : i < xs.length := by omega
          have hil' : (i : Int) < xs.length := by omega
          simp (maxSteps := 1000000) [go_sem, hw_j, hw_i, e0, hst, hil, hil']
          refine hK (i + 1, j + 1, d.set i v) _ _ (by simp only; omega) (by simp [upF, Fr.get, Up.refl]) ⟨by simp only; omega, by simp only; omega, by simp [hd], ?_, ?_, hS4.trans same_set, List.getElem?_set_self (List.getElem?_eq_some_iff.1 hb4).1⟩
          · simp only
            have hil2 : i < (d.set i v).length := by simp; omega
            rw [hxt, List.filter_append, ← htk, List.take_succ_eq_append_getElem hil2, List.getElem_set_self, List.take_set_of_le (Nat.le_refl _)]
            simp [hP]
          · simp only
            rw [List.drop_set_of_lt (by omega), hxd]
      · have : j = xs.length := by omega
        subst this
        rw [List.take_length] at htk
        have hil : i ≤ xs.length := by omega
        have hlen : (xs.filter fun x => !P x).length = i := by rw [← htk, List.length_take]; omega
        have ed : tri d = tri (d.take i) ++ tri (d.drop i) := by rw [← tri_append, List.take_append_drop]
        have hil0 : i < xs.length := hij
        have hil' : (i : Int) ≤ xs.length := by omega
        have hn0 : ¬ (xs.length - i = 0) := by omega
        have hn1 : ¬ (xs.length ≤ i) := by omega
        simp (maxSteps := 1000000) [go_sem, sliceV, boundV, lenV, hil, hil', hn0, hn1]
        obtain ⟨z, hz⟩ : ∃ z : List Value, z = (Builtin.zeroCells #[Value.int IntKind.i64 0, Value.int IntKind.i64 0, Value.int IntKind.i64 0] (xs.length - i)).toList := ⟨_, rfl⟩
        have hzl : z.length = (xs.length - i) * 3 := by rw [hz]; simp [Builtin.zeroCells]
        have hzo : z.all Value.oneCell' = true := by
          rw [hz, List.all_eq_true]
          intro v hv
          unfold Builtin.zeroCells at hv
          rw [Array.mem_toList_iff, Array.mem_map] at hv
          obtain ⟨k, _, rfl⟩ := hv
          have : k % 3 = 0 ∨ k % 3 = 1 ∨ k % 3 = 2 := by omega
          rcases this with e | e | e <;> simp [e, Value.oneCell']
        rw [← hz]
        have hst := storeAt_of (o := i * 3) (vs := z) hb2 rfl rfl (by rw [hzl, tri_length]; omega) hzo
        have e3 : over (tri d) (i * 3) z = tri (d.take i) ++ z := by
          unfold over
          rw [ed, List.take_left' (by rw [tri_length, List.length_take]; omega)]
          rw [List.drop_eq_nil_of_le (by rw [List.length_append, tri_length, tri_length, List.length_take, List.length_drop]; omega), List.append_nil]
        rw [e3] at hst
        have hil3 : (i : Int) ≤ xs.length := by omega
        have fin := h _ z (hS2.trans same_set) (by rw [← htk]; exact List.getElem?_set_self (List.getElem?_eq_some_iff.1 hb2).1)
        rw [hlen] at fin
        have hi0 : ¬ (i = 0 ∧ False) := fun h => h.2
        simp (maxSteps := 1000000) [go_sem, hst, sliceV, boundV, lenV, hil, hil', hn0, hn1]
        exact fin

end Go.Proofs.Ytdfeoccjllljiaa
end

section
/- Regions whose order is open, with operations that hang on nothing (a new cell, an empty list): at each effect ahead of such a one, both ways are shown. It holds for every program. -/
set_option linter.all false
namespace Go.Ab
open Go.RowKit (Below)

def pairOKF (ops : Array Oper) (fs : List Nat) (ms : List Nat) (x y : Nat × Bool) : Bool :=
  match ops[x.1]?, ops[y.1]? with
  | some p, some q =>
    let d := (ms.getD y.1 0).testBit x.1
    !directTo p y.1 && x.1 != y.1 &&
    (match isR p.op with
     | true => (d || indep ops p q) && (isR q.op || y.2 || !readsH p.op || d)
     | false => d || (fs.contains y.1 && y.2 && !isR q.op))
  | _, _ => false
def pairsOKF (ops : Array Oper) (fs : List Nat) (ms : List Nat) : List (Nat × Bool) → Bool
  | [] => true
  | x :: l => l.all (pairOKF ops fs ms x) && pairsOKF ops fs ms l
def drawOKF (ops : Array Oper) (fs : List Nat) (canon : List (Nat × Bool)) : Bool :=
  let ms := masksGo ops.toList []
  pairsOKF ops fs ms canon && edgesOK ops && decide (canon.length = ops.size) && canon.all (fun x => decide (x.1 < ops.size)) && (List.range ops.size).all (fun i => (canon.map (·.1)).contains i)

section
variable {P : Program} {N : Nat} {ops : Array Oper} {K : Fr → Heap → Prop} {fs : List Nat}

/-- With both ways at each effect. -/
def vF (P : Program) (N : Nat) (ops : Array Oper) (fs : List Nat) (K : Fr → Heap → Prop) : Nat → List (Nat × Bool) → Fr → Heap → Prop
  | _, [], fr, H => K fr H
  | 0, _ :: _, _, _ => False
  | n + 1, (i, fl) :: l, fr, H => match ops[i]? with
    | none => False
    | some o => match isR o.op with
      | true => vstep P N ops o (vF P N ops fs K n l) fr H
      | false => vstep P N ops o (eK fl H (vF P N ops fs K n l)) fr H ∧
          ∀ f, f ∈ fs → f ∈ l.map (·.1) → ∃ o', ops[f]? = some o' ∧ isR o'.op = false ∧ vstep P N ops o' (eK true H (vF P N ops fs K n ((i, fl) :: l.filter fun y => y.1 != f))) fr H

theorem vstep_closed {o : Oper} {T : Fr → Heap → Prop} (hT : Closed T) {f g : Fr} {H : Heap} (hfg : feq f g) (h : vstep P N ops o T f H) : vstep P N ops o T g H := by
  cases hR : isR o.op with
  | true =>
    obtain ⟨v, h1, h2⟩ := vstep_R hR hT h
    exact h2 g H _ hT (agreeG.of_feq hfg) (fun _ => List.prefix_refl _) (hT _ _ _ (hfg.put _ _) h1)
  | false =>
    refine vstep_weak (vstep_E hT h (agreeG.of_feq hfg)) ?_
    rintro f' h' ⟨v, h1, h2⟩
    exact hT _ _ _ ((hfg.put _ _).trans h1) h2
theorem eK_closed {fl : Bool} {H : Heap} {T : Fr → Heap → Prop} (hT : Closed T) : Closed (eK fl H T) := by
  intro f g h' hfg hk
  cases fl with
  | true => exact ⟨hk.1, hT _ _ _ hfg hk.2⟩
  | false => exact hT _ _ _ hfg hk
theorem vF_closed (hK : Closed K) : ∀ n l, Closed (vF P N ops fs K n l)
  | 0, [] => hK
  | n + 1, [] => hK
  | 0, _ :: _ => fun _ _ _ _ h => h
  | n + 1, (i, fl) :: l => by
    intro f g H hfg h
    simp only [vF] at h ⊢
    split at h
    · exact h.elim
    · rename_i o ho
      cases hR : isR o.op with
      | true => simp only [hR] at h ⊢; exact vstep_closed (vF_closed hK n l) hfg h
      | false =>
        simp only [hR] at h ⊢
        refine ⟨vstep_closed (eK_closed (vF_closed hK n l)) hfg h.1, fun f hf hm => ?_⟩
        obtain ⟨o', h1, h2, h3⟩ := h.2 f hf hm
        exact ⟨o', h1, h2, vstep_closed (eK_closed (vF_closed hK n _)) hfg h3⟩

/-- Reads one after the other. -/
def seqR (P : Program) (N : Nat) (ops : Array Oper) (T : Fr → Heap → Prop) : List (Nat × Bool) → Fr → Heap → Prop
  | [], fr, H => T fr H
  | (j, _) :: l, fr, H => match ops[j]? with
    | none => False
    | some p => vstep P N ops p (seqR P N ops T l) fr H
theorem seqR_closed {T : Fr → Heap → Prop} (hT : Closed T) : ∀ l, Closed (seqR P N ops T l)
  | [] => hT
  | (j, fj) :: l => by
    intro f g H hfg h
    simp only [seqR] at h ⊢
    split at h
    · exact h.elim
    · exact vstep_closed (seqR_closed hT l) hfg h
theorem vF_seqR {n : Nat} {rest : List (Nat × Bool)} : ∀ (l1 : List (Nat × Bool)) (fr : Fr) (H : Heap), (∀ x ∈ l1, ∃ p, ops[x.1]? = some p ∧ isR p.op = true) →
    (vF P N ops fs K (l1.length + n) (l1 ++ rest) fr H ↔ seqR P N ops (vF P N ops fs K n rest) l1 fr H)
  | [], fr, H, _ => by simp [seqR]
  | (j, fj) :: l1, fr, H, hl => by
    obtain ⟨p, hp, hR⟩ := hl (j, fj) (by simp)
    have ih := fun fr H => vF_seqR (n := n) (rest := rest) l1 fr H fun x hx => hl x (by simp [hx])
    rw [show ((j, fj) :: l1).length + n = (l1.length + n) + 1 by simp; omega]
    simp only [List.cons_append, vF, seqR, hp, hR]
    exact ⟨fun h => vstep_weak h fun f h => (ih f h).1, fun h => vstep_weak h fun f h => (ih f h).2⟩

theorem front_gen {o : Oper} {fl : Bool} {T T' : Fr → Heap → Prop} (hT : Closed T) (hT' : Closed T') (hstep : ∀ fr H, T fr H → vstep P N ops o (fun f h => rel o fl H h ∧ T' f h) fr H) : ∀ (l1 : List (Nat × Bool)) (fr : Fr) (H : Heap),
    (∀ x ∈ l1, ∃ p, ops[x.1]? = some p ∧ isR p.op = true ∧ indep ops p o = true ∧ (readsH p.op = true → isR o.op = true ∨ fl = true)) →
    seqR P N ops T l1 fr H → vstep P N ops o (fun f h => rel o fl H h ∧ seqR P N ops T' l1 f h) fr H
  | [], fr, H, _, h => hstep fr H h
  | (j, fj) :: l1, fr, H, hl, h => by
    obtain ⟨p, hp, hR, hin, hrd⟩ := hl (j, fj) (by simp)
    simp only [seqR, hp] at h ⊢
    have hc1 := seqR_closed (P := P) (N := N) (ops := ops) hT l1
    have hc2 := seqR_closed (P := P) (N := N) (ops := ops) hT' l1
    obtain ⟨v, h1, h2⟩ := vstep_R hR hc1 h
    have ih := front_gen hT hT' hstep l1 (fr.put p.dst v) H (fun x hx => hl x (by simp [hx])) h1
    obtain ⟨i1, i2, i3⟩ := indep_spec hin
    have hcK : Closed (fun f h => rel o fl H h ∧ seqR P N ops T' l1 f h) := fun f g h hfg hk => ⟨hk.1, hc2 _ _ _ hfg hk.2⟩
    have hag : agreeG ops o (fr.put p.dst v) fr := agreeG.symm (agreeG.put i1)
    refine vstep_weak (vstep_E hcK ih hag) ?_
    rintro f h' ⟨u, hf, hrel, hv⟩
    refine ⟨hrel, ?_⟩
    have hvE : vstep P N ops p (seqR P N ops T' l1) (fr.put o.dst u) h' := by
      refine h2 (fr.put o.dst u) h' _ hc2 (agreeG.put i2) (fun hr => hrel (hrd hr)) ?_
      exact hc2 _ _ _ (put_comm fr i3 v u) hv
    exact vstep_closed hc2 hf hvE

theorem eK_rel {o : Oper} {fl : Bool} {T : Fr → Heap → Prop} {fr : Fr} {H : Heap} (hR : isR o.op = false) (h : vstep P N ops o (eK fl H T) fr H) : vstep P N ops o (fun f h => rel o fl H h ∧ T f h) fr H := by
  refine vstep_weak h ?_
  intro f h' hk
  cases fl with
  | true => exact ⟨fun _ => hk.1, hk.2⟩
  | false => exact ⟨fun e => by simp [hR] at e, hk⟩

/-- What is behind reads only comes first. -/
theorem vF_front (hK : Closed K) {n i : Nat} {fl : Bool} {l1 l2 : List (Nat × Bool)} {o : Oper} (ho : ops[i]? = some o) {fr : Fr} {H : Heap}
    (hl1 : ∀ x ∈ l1, ∃ p, ops[x.1]? = some p ∧ isR p.op = true ∧ indep ops p o = true ∧ (readsH p.op = true → isR o.op = true ∨ fl = true))
    (h : vF P N ops fs K (l1.length + (n + 1)) (l1 ++ (i, fl) :: l2) fr H) : vstep P N ops o (fun f h => rel o fl H h ∧ vF P N ops fs K (l1.length + n) (l1 ++ l2) f h) fr H := by
  have hl1' : ∀ x ∈ l1, ∃ p, ops[x.1]? = some p ∧ isR p.op = true := fun x hx => by obtain ⟨p, h1, h2, _⟩ := hl1 x hx; exact ⟨p, h1, h2⟩
  rw [vF_seqR l1 fr H hl1'] at h
  have hstep : ∀ fr H, vF P N ops fs K (n + 1) ((i, fl) :: l2) fr H → vstep P N ops o (fun f h => rel o fl H h ∧ vF P N ops fs K n l2 f h) fr H := by
    intro fr H h
    simp only [vF, ho] at h
    cases hR : isR o.op with
    | true =>
      simp only [hR] at h
      obtain ⟨v, h1, h2⟩ := vstep_R hR (vF_closed hK n l2) h
      refine h2 fr H _ ?_ (fun _ _ => rfl) (fun _ => List.prefix_refl _) ⟨fun _ => List.prefix_refl _, h1⟩
      intro f g h hfg hk
      exact ⟨hk.1, vF_closed hK n l2 _ _ _ hfg hk.2⟩
    | false => simp only [hR] at h; exact eK_rel hR h.1
  refine vstep_weak (front_gen (vF_closed hK _ _) (vF_closed hK n l2) hstep l1 fr H hl1 h) ?_
  rintro f h' ⟨h1, h2⟩
  exact ⟨h1, (vF_seqR l1 f h' hl1').2 h2⟩
/-- What hangs on nothing comes ahead of the first effect. -/
theorem vF_float (hK : Closed K) {n i f : Nat} {fl : Bool} {r1 l2 : List (Nat × Bool)} {o o' : Oper} (ho : ops[i]? = some o) (hE : isR o.op = false) (hf : ops[f]? = some o') (hff : f ∈ fs) (hfl : f ∈ l2.map (·.1)) {fr : Fr} {H : Heap}
    (hl1 : ∀ x ∈ r1, ∃ p, ops[x.1]? = some p ∧ isR p.op = true ∧ indep ops p o' = true)
    (h : vF P N ops fs K (r1.length + (n + 1)) (r1 ++ (i, fl) :: l2) fr H) : vstep P N ops o' (fun f' h => rel o' true H h ∧ vF P N ops fs K (r1.length + n) (r1 ++ (i, fl) :: l2.filter fun y => y.1 != f) f' h) fr H := by
  have hl1' : ∀ x ∈ r1, ∃ p, ops[x.1]? = some p ∧ isR p.op = true := fun x hx => by obtain ⟨p, h1, h2, _⟩ := hl1 x hx; exact ⟨p, h1, h2⟩
  rw [vF_seqR r1 fr H hl1'] at h
  have hstep : ∀ fr H, vF P N ops fs K (n + 1) ((i, fl) :: l2) fr H → vstep P N ops o' (fun f' h => rel o' true H h ∧ vF P N ops fs K n ((i, fl) :: l2.filter fun y => y.1 != f) f' h) fr H := by
    intro fr H h
    simp only [vF, ho, hE] at h
    obtain ⟨o2, h1, h2, h3⟩ := h.2 f hff hfl
    rw [hf] at h1; cases h1
    exact eK_rel h2 h3
  refine vstep_weak (front_gen (vF_closed hK _ _) (vF_closed hK n _) hstep r1 fr H (fun x hx => by obtain ⟨p, h1, h2, h3⟩ := hl1 x hx; exact ⟨p, h1, h2, h3, fun _ => .inr rfl⟩) h) ?_
  rintro f h' ⟨h1, h2⟩
  exact ⟨h1, (vF_seqR r1 f h' hl1').2 h2⟩

theorem pairsOKF_spec {ms : List Nat} : ∀ {l1 : List (Nat × Bool)} {y : Nat × Bool} {l2 : List (Nat × Bool)}, pairsOKF ops fs ms (l1 ++ y :: l2) = true → (∀ x ∈ l1, pairOKF ops fs ms x y = true) ∧ (∀ z ∈ l2, pairOKF ops fs ms y z = true) ∧ pairsOKF ops fs ms (l1 ++ l2) = true
  | [], y, l2, h => by
    simp only [List.nil_append, pairsOKF, Bool.and_eq_true, List.all_eq_true] at h
    exact ⟨by simp, h.1, h.2⟩
  | x :: l1, y, l2, h => by
    simp only [List.cons_append, pairsOKF, Bool.and_eq_true, List.all_eq_true] at h ⊢
    obtain ⟨h1, h2⟩ := h
    obtain ⟨h3, h4, h5⟩ := pairsOKF_spec h2
    refine ⟨fun z hz => ?_, h4, fun z hz => h1 z ?_, h5⟩
    · rcases List.mem_cons.1 hz with rfl | hz
      · exact h1 y (by simp)
      · exact h3 z hz
    · rcases List.mem_append.1 hz with hz | hz
      · simp [hz]
      · simp [hz]

/-- The first effect of a list. -/
theorem first_effect : ∀ (l : List (Nat × Bool)), (∀ x ∈ l, ∃ p, ops[x.1]? = some p) → (∀ x ∈ l, ∃ p, ops[x.1]? = some p ∧ isR p.op = true) ∨
    ∃ r1 e o r2, l = r1 ++ e :: r2 ∧ ops[e.1]? = some o ∧ isR o.op = false ∧ ∀ x ∈ r1, ∃ p, ops[x.1]? = some p ∧ isR p.op = true
  | [], _ => .inl (by simp)
  | x :: l, h => by
    obtain ⟨p, hp⟩ := h x (by simp)
    cases hR : isR p.op with
    | false => exact .inr ⟨[], x, p, l, rfl, hp, hR, by simp⟩
    | true =>
      rcases first_effect l fun y hy => h y (by simp [hy]) with h1 | ⟨r1, e, o, r2, rfl, h2, h3, h4⟩
      · left
        intro y hy
        rcases List.mem_cons.1 hy with rfl | hy
        · exact ⟨p, hp, hR⟩
        · exact h1 y hy
      · refine .inr ⟨x :: r1, e, o, r2, rfl, h2, h3, fun y hy => ?_⟩
        rcases List.mem_cons.1 hy with rfl | hy
        · exact ⟨p, hp, hR⟩
        · exact h4 y hy

theorem drawF_any {B : Nat} {w0 : World} {Q : Exit → Act → World → Prop} (hK : Closed K) (hedge : edgesOK ops = true) : ∀ (n : Nat) (listed : Array Bool) (l : List (Nat × Bool)) (fr : Fr) (H : Heap) (ρ : Rho) (w : World) (a : Act),
    listed.size = ops.size → l.length = n → pairsOKF ops fs (masksGo ops.toList []) l = true → (∀ x ∈ l, x.1 < ops.size ∧ listed.getD x.1 true = false) → (∀ i, i < ops.size → listed.getD i true = false → ∃ x ∈ l, x.1 = i) →
    (∀ (j : Nat) (o : Oper), ops[j]? = some o → listed.getD j false = true → ∀ e ∈ o.after.toList, Region.binds .any e = true → listed.getD e.on false = true) →
    vF P N ops fs K n l fr H → R B w0 ρ H w → FR N ρ fr a →
    (∀ (ρ' : Rho) (fr' : Fr) (H' : Heap) (a' : Act) (w' : World), ρ <+: ρ' → K fr' H' → R B w0 ρ' H' w' → FR N ρ' fr' a' → Q .normal a' w') → wpAny P .any ops Q n listed a w := by
  intro n
  have getD2 : ∀ (listed : Array Bool) (i : Nat), listed.size = ops.size → i < ops.size → listed.getD i true = listed.getD i false := by
    intro listed i h1 h2
    simp [Array.getD_eq_getD_getElem?, h1, h2]
  induction n with
  | zero =>
    intro listed l fr H ρ w a hsz hl hp hin hall hcl hv hR hF hq
    have : l = [] := List.eq_nil_of_length_eq_zero hl
    subst this
    refine ⟨?_, hq ρ fr H a w (List.prefix_refl _) hv hR hF⟩
    rw [List.eq_nil_iff_forall_not_mem]
    intro i hi
    simp only [Region.ready, List.mem_filter, List.mem_range, Bool.and_eq_true, Bool.not_eq_true'] at hi
    obtain ⟨x, hx, _⟩ := hall i hi.1 hi.2.1
    simp at hx
  | succ n ih =>
    intro listed l fr H ρ w a hsz hl hp hin hall hcl hv hR hF hq
    refine ⟨?_, ?_⟩
    · intro hnil
      exfalso
      match l, hl with
      | (i, fl) :: l, hl =>
        obtain ⟨h1, h2⟩ := hin (i, fl) (by simp)
        have hi : i ∈ Region.ready .any ops listed := by
          simp only [Region.ready, List.mem_filter, List.mem_range, Bool.and_eq_true, Bool.not_eq_true']
          refine ⟨h1, h2, ?_⟩
          rw [Array.getElem?_eq_getElem h1]
          simp only [Option.map_some, Option.getD_some, Array.all_eq_true']
          intro e he
          rw [Bool.or_eq_true, Bool.not_eq_true']
          by_cases hb : Region.binds .any e = true
          · right
            have hedge' := List.all_eq_true.1 hedge i (by simpa using h1)
            simp only [Array.getElem?_eq_getElem h1, List.all_eq_true] at hedge'
            have he' := hedge' e (by simpa using he)
            simp only [hb, Bool.not_true, Bool.false_or, Bool.and_eq_true, decide_eq_true_eq, bne_iff_ne, ne_eq] at he'
            rw [← getD2 listed e.on hsz he'.1]
            cases hg : listed.getD e.on true with
            | true => rfl
            | false =>
              obtain ⟨x, hx, hxe⟩ := hall e.on he'.1 hg
              rcases List.mem_cons.1 hx with rfl | hx
              · exact absurd hxe.symm he'.2
              · have hpo := (pairsOKF_spec (l1 := []) hp).2.1 x hx
                have hx1 := (hin x (by simp [hx])).1
                simp only [pairOKF, Array.getElem?_eq_getElem h1, Array.getElem?_eq_getElem hx1, Bool.and_eq_true, Bool.not_eq_true'] at hpo
                have hd := hpo.1.1
                simp only [directTo, List.any_eq_false, Bool.and_eq_true, beq_iff_eq, not_and] at hd
                exact absurd hxe.symm (hd e (by simpa using he) hb)
          · left; simpa using hb
        rw [hnil] at hi
        simp at hi
    · intro i hi
      simp only [Region.ready, List.mem_filter, List.mem_range, Bool.and_eq_true, Bool.not_eq_true'] at hi
      obtain ⟨hilt, hnl, hrdy⟩ := hi
      rw [Array.getElem?_eq_getElem hilt] at hrdy
      simp only [Option.map_some, Option.getD_some, Array.all_eq_true'] at hrdy
      have ho : ops[i]? = some ops[i] := Array.getElem?_eq_getElem hilt
      obtain ⟨x, hx, hxi⟩ := hall i hilt hnl
      obtain ⟨l1, l2, rfl⟩ := List.append_of_mem hx
      obtain ⟨i', fl⟩ := x
      simp only at hxi
      subst hxi
      obtain ⟨hp1, hp2, hp3⟩ := pairsOKF_spec hp
      have hpre : ∀ e ∈ (ops[i']).after.toList, Region.binds .any e = true → listed.getD e.on false = true := by
        intro e he hb
        have := hrdy e (by simpa using he)
        simpa [hb] using this
      have hdep : ∀ y ∈ l1, ¬ ((masksGo ops.toList []).getD i' 0).testBit y.1 = true := by
        intro y hy hb
        have := masks_sound (ops := ops) (fun j => listed.getD j false = true) hcl ops.toList [] (fun j _ => by simp) (fun j o p hj => by simp at hj) i' _ y.1 ho hb hpre
        obtain ⟨hy1, hy2⟩ := hin y (by simp [hy])
        rw [getD2 listed y.1 hsz hy1] at hy2
        rw [hy2] at this; cases this
      have hR1 : ∀ y ∈ l1, ∀ p, ops[y.1]? = some p → isR p.op = true → indep ops p ops[i'] = true ∧ (readsH p.op = true → isR (ops[i']).op = true ∨ fl = true) := by
        intro y hy p hp' hRp
        have hy1 := (hin y (by simp [hy])).1
        have hpo := hp1 y hy
        have hd := hdep y hy
        simp only [pairOKF, hp', ho, Bool.and_eq_true] at hpo
        have hpo2 := hpo.2
        simp only [Bool.not_eq_true] at hd
        simp only [hRp, hd, Bool.false_or, Bool.or_false, Bool.and_eq_true, Bool.or_eq_true, Bool.not_eq_true'] at hpo2
        refine ⟨hpo2.1, fun hr => ?_⟩
        rcases hpo2.2 with (h | h) | h
        · exact .inl h
        · exact .inr h
        · rw [hr] at h; cases h
      have hE1 : ∀ y ∈ l1, ∀ p, ops[y.1]? = some p → isR p.op = false → i' ∈ fs ∧ fl = true ∧ isR (ops[i']).op = false := by
        intro y hy p hp' hRp
        have hpo := hp1 y hy
        have hd := hdep y hy
        simp only [pairOKF, hp', ho, Bool.and_eq_true] at hpo
        have hpo2 := hpo.2
        simp only [Bool.not_eq_true] at hd
        simp only [hRp, hd, Bool.false_or, Bool.and_eq_true, Bool.not_eq_true', List.contains_iff_mem] at hpo2
        exact ⟨hpo2.1.1, hpo2.1.2, hpo2.2⟩
      have hnd : ∀ y ∈ l1 ++ l2, y.1 ≠ i' := by
        intro y hy e
        rcases List.mem_append.1 hy with hy | hy
        · have hpo := hp1 y hy
          have hy1 := (hin y (by simp [hy])).1
          simp [pairOKF, Array.getElem?_eq_getElem hy1, ho, e] at hpo
        · have hpo := hp2 y hy
          have hy1 := (hin y (by simp [hy])).1
          simp [pairOKF, Array.getElem?_eq_getElem hy1, ho, e] at hpo
      have hstep : vstep P N ops ops[i'] (fun f h => rel ops[i'] fl H h ∧ vF P N ops fs K n (l1 ++ l2) f h) fr H := by
        simp only [List.length_append, List.length_cons] at hl
        rcases first_effect (ops := ops) l1 (fun x hx => ⟨_, Array.getElem?_eq_getElem (hin x (by simp [hx])).1⟩) with hall1 | ⟨r1, e, oe, r2, rfl, he1, he2, he3⟩
        · rw [show n = l1.length + l2.length by omega]
          rw [show n + 1 = l1.length + (l2.length + 1) by omega] at hv
          exact vF_front hK ho (fun x hx => by obtain ⟨p, h1, h2⟩ := hall1 x hx; obtain ⟨h3, h4⟩ := hR1 x hx p h1 h2; exact ⟨p, h1, h2, h3, h4⟩) hv
        · obtain ⟨hif, hfl, hEi⟩ := hE1 e (by simp) oe he1 he2
          subst hfl
          simp only [List.length_append, List.length_cons] at hl
          rw [show n + 1 = r1.length + ((r2.length + 1 + l2.length) + 1) by omega, List.append_assoc, List.cons_append] at hv
          have hfilt : (r2 ++ (i', true) :: l2).filter (fun y => y.1 != i') = r2 ++ l2 := by
            rw [List.filter_append, List.filter_cons]
            simp only [bne_self_eq_false, Bool.false_eq_true, if_false]
            rw [List.filter_eq_self.2, List.filter_eq_self.2]
            · intro y hy; simpa using hnd y (by simp [hy])
            · intro y hy; simpa using hnd y (by simp [hy])
          have := vF_float (f := i') hK he1 he2 ho hif (by simp) (fun x hx => by
            obtain ⟨p, h1, h2⟩ := he3 x hx
            exact ⟨p, h1, h2, (hR1 x (by simp [hx]) p h1 h2).1⟩) hv
          rw [hfilt] at this
          rw [show n = r1.length + (r2.length + 1 + l2.length) by omega, List.append_assoc, List.cons_append]
          exact this
      unfold wpOp
      rw [ho]
      refine vstep_sound hstep hR hF Q ?_
      rintro ρ' fr' H' a' w' hpre' ⟨_, hv'⟩ hR' hF'
      refine ih (listed.setIfInBounds i' true) (l1 ++ l2) fr' H' ρ' w' a' (by simpa using hsz) (by simp at hl ⊢; omega) hp3 ?_ ?_ ?_ hv' hR' hF' (fun ρ'' f'' H'' a'' w'' h1 => hq ρ'' f'' H'' a'' w'' (hpre'.trans h1))
      · intro y hy
        have hne := hnd y hy
        obtain ⟨h1, h2⟩ := hin y (by rcases List.mem_append.1 hy with hy | hy <;> simp [hy])
        exact ⟨h1, by rw [getD_set_ne _ (fun e => hne e.symm)]; exact h2⟩
      · intro j hj hnj
        by_cases e : i' = j
        · subst e
          exfalso
          have : (listed.setIfInBounds i' true).getD i' true = true := by simp [Array.getD_eq_getD_getElem?]
          rw [this] at hnj; cases hnj
        · rw [getD_set_ne _ e] at hnj
          obtain ⟨y, hy, rfl⟩ := hall j hj hnj
          refine ⟨y, ?_, rfl⟩
          rcases List.mem_append.1 hy with hy | hy
          · simp [hy]
          · rcases List.mem_cons.1 hy with rfl | hy
            · exact absurd rfl e
            · simp [hy]
      · intro j o hj hlj e he hb
        by_cases e' : i' = j
        · subst e'
          rw [ho] at hj; cases hj
          exact getD_set_true (hpre e he hb)
        · rw [getD_set_ne _ e'] at hlj
          exact getD_set_true (hcl j o hj hlj e he hb)

/-- Both ways, written out. -/
inductive Tree
  | nil
  | one (i : Nat) (fl : Bool) (t : Tree)
  | two (i : Nat) (fl : Bool) (t : Tree) (f : Nat) (t' : Tree)

def andA (a b : Prop) : Prop := a ∧ b
theorem andA_intro {a b : Prop} (ha : a) (hb : b) : andA a b := ⟨ha, hb⟩
/-- The second way, not yet walked. -/
def otherWay (a : Prop) : Prop := a
theorem otherWay_intro {a : Prop} (h : a) : otherWay a := h
def vT (P : Program) (N : Nat) (ops : Array Oper) (K : Fr → Heap → Prop) : Tree → Fr → Heap → Prop
  | .nil, fr, H => K fr H
  | .one i fl t, fr, H => match ops[i]? with
    | none => False
    | some o => match isR o.op with
      | true => vstep P N ops o (vT P N ops K t) fr H
      | false => vstep P N ops o (eK fl H (vT P N ops K t)) fr H
  | .two i fl t f t', fr, H => match ops[i]?, ops[f]? with
    | some o, some o' => vstep P N ops o (eK fl H (vT P N ops K t)) fr H ∧ vstep P N ops o' (eK true H (vT P N ops K t')) fr H
    | _, _ => False
def treeOK (ops : Array Oper) (fs : List Nat) : Tree → List (Nat × Bool) → Bool
  | .nil, l => l.isEmpty
  | .one i fl t, (j, fl') :: l => i == j && fl == fl' && ((match ops[i]? with | some o => isR o.op | none => false) || fs.all fun f => !(l.map (·.1)).contains f) && treeOK ops fs t l
  | .two i fl t f t', (j, fl') :: l => i == j && fl == fl' && (match ops[i]?, ops[f]? with | some o, some o' => !isR o.op && !isR o'.op | _, _ => false) && (fs.all fun g => g == f || !(l.map (·.1)).contains g) && treeOK ops fs t l && treeOK ops fs t' ((j, fl') :: l.filter fun y => y.1 != f)
  | _, [] => false
theorem vT_vF : ∀ (t : Tree) (n : Nat) (l : List (Nat × Bool)) (fr : Fr) (H : Heap), l.length ≤ n → (∀ x y, x ∈ l → y ∈ l → x.1 = y.1 → x = y) → treeOK ops fs t l = true → vT P N ops K t fr H → vF P N ops fs K n l fr H := by
  intro t
  induction t with
  | nil =>
    intro n l fr H hn _ hok h
    cases l with
    | nil => cases n <;> exact h
    | cons x l => simp [treeOK] at hok
  | one i fl t ih =>
    intro n l fr H hn hu hok h
    cases l with
    | nil => simp [treeOK] at hok
    | cons x l =>
      obtain ⟨j, fl'⟩ := x
      simp only [treeOK, Bool.and_eq_true, beq_iff_eq] at hok
      obtain ⟨⟨⟨rfl, rfl⟩, hfl⟩, hok⟩ := hok
      cases n with
      | zero => simp at hn
      | succ n =>
        simp only [List.length_cons] at hn
        have hu' : ∀ x y, x ∈ l → y ∈ l → x.1 = y.1 → x = y := fun x y hx hy => hu x y (by simp [hx]) (by simp [hy])
        simp only [vT] at h
        simp only [vF]
        cases ho : ops[i]? with
        | none => simp [ho] at h
        | some o =>
          simp only [ho] at h hfl ⊢
          cases hR : isR o.op with
          | true => simp only [hR] at h ⊢; exact vstep_weak h fun f h => ih n l f h (by omega) hu' hok
          | false =>
            simp only [hR, Bool.false_or, List.all_eq_true] at h hfl ⊢
            refine ⟨vstep_weak h fun f h' hk => ?_, fun f hf hm => ?_⟩
            · cases fl with
              | true => exact ⟨hk.1, ih n l f h' (by omega) hu' hok hk.2⟩
              | false => exact ih n l f h' (by omega) hu' hok hk
            · have := hfl f hf
              simp only [Bool.not_eq_true', List.contains_eq_mem, decide_eq_false_iff_not] at this
              exact absurd hm this
  | two i fl t f t' ih ih' =>
    intro n l fr H hn hu hok h
    cases l with
    | nil => simp [treeOK] at hok
    | cons x l =>
      obtain ⟨j, fl'⟩ := x
      simp only [treeOK, Bool.and_eq_true, beq_iff_eq] at hok
      obtain ⟨⟨⟨⟨⟨rfl, rfl⟩, hE⟩, hfl⟩, hok⟩, hok'⟩ := hok
      cases n with
      | zero => simp at hn
      | succ n =>
        simp only [List.length_cons] at hn
        have hu' : ∀ x y, x ∈ l → y ∈ l → x.1 = y.1 → x = y := fun x y hx hy => hu x y (by simp [hx]) (by simp [hy])
        simp only [vT] at h
        simp only [vF]
        cases ho : ops[i]? with
        | none => simp [ho] at h
        | some o =>
          cases ho' : ops[f]? with
          | none => simp [ho, ho'] at h
          | some o' =>
            simp only [ho, ho', Bool.and_eq_true, Bool.not_eq_true'] at h hE ⊢
            simp only [hE.1]
            refine ⟨vstep_weak h.1 fun g h' hk => ?_, fun g hg hm => ?_⟩
            · cases fl with
              | true => exact ⟨hk.1, ih n l g h' (by omega) hu' hok hk.2⟩
              | false => exact ih n l g h' (by omega) hu' hok hk
            · rw [List.all_eq_true] at hfl
              have hgf := hfl g hg
              simp only [Bool.or_eq_true, beq_iff_eq, Bool.not_eq_true', List.contains_eq_mem, decide_eq_false_iff_not] at hgf
              have : g = f := hgf.resolve_right (fun e => e hm)
              subst this
              refine ⟨o', ho', hE.2, vstep_weak h.2 fun q h' hk => ⟨hk.1, ih' n _ q h' ?_ ?_ hok' hk.2⟩⟩
              · obtain ⟨z, hz, hzg⟩ := List.mem_map.1 hm
                have : (l.filter fun y => y.1 != g).length < l.length := by
                  rw [List.length_filter_lt_length_iff_exists]
                  exact ⟨z, hz, by simp [hzg]⟩
                simp only [List.length_cons]; omega
              · intro x y hx hy
                refine hu x y ?_ ?_
                · rcases List.mem_cons.1 hx with rfl | hx
                  · simp
                  · exact List.mem_cons_of_mem _ (List.mem_filter.1 hx).1
                · rcases List.mem_cons.1 hy with rfl | hy
                  · simp
                  · exact List.mem_cons_of_mem _ (List.mem_filter.1 hy).1

theorem AWp.drawF {id : Nat} {fr : Fr} {H : Heap} {Q : Exit → Fr → Heap → Prop} (hm : P.follows .mixedOrders = true) (fs : List Nat) (canon : List (Nat × Bool)) (t : Tree) (hok : (drawOKF ops fs canon && treeOK ops fs t canon) = true) (h : vT P N ops (Q .normal) t fr H) : AWp P N (.region id ops true) Q fr H := by
  intro B w0 ρ w a hR hF
  simp only [drawOKF, Bool.and_eq_true, decide_eq_true_eq, List.all_eq_true, List.mem_range, List.contains_iff_mem, List.mem_map] at hok
  obtain ⟨⟨⟨⟨⟨h1, h2⟩, h3⟩, h4⟩, h5⟩, h6⟩ := hok
  refine wp_region_any hm ?_
  let K : Fr → Heap → Prop := fun f h => ∃ g, feq g f ∧ Q .normal g h
  have hK : Closed K := fun f g h hfg ⟨k, hk, hq⟩ => ⟨k, hk.trans hfg, hq⟩
  have hu : ∀ x y, x ∈ canon → y ∈ canon → x.1 = y.1 → x = y := by
    intro x y hx hy e
    obtain ⟨l1, l2, rfl⟩ := List.append_of_mem hx
    obtain ⟨hp1, hp2, _⟩ := pairsOKF_spec h1
    rcases List.mem_append.1 hy with hy | hy
    · have := hp1 y hy
      unfold pairOKF at this
      split at this
      · simp [e] at this
      · cases this
    · rcases List.mem_cons.1 hy with rfl | hy
      · rfl
      · have := hp2 y hy
        unfold pairOKF at this
        split at this
        · simp [e] at this
        · cases this
  have hv : vF P N ops fs K ops.size canon fr H := by
    refine vT_vF t ops.size canon fr H (by omega) hu h6 ?_
    have weak : ∀ (t : Tree) (fr : Fr) (H : Heap), vT P N ops (Q .normal) t fr H → vT P N ops K t fr H := by
      intro t
      induction t with
      | nil => exact fun fr H h => ⟨fr, feq.rfl' _, h⟩
      | one i fl t ih =>
        intro fr H h
        simp only [vT] at h ⊢
        split at h
        · exact h
        · rename_i o ho
          cases hR : isR o.op with
          | true => simp only [hR] at h ⊢; exact vstep_weak h ih
          | false =>
            simp only [hR] at h ⊢
            refine vstep_weak h ?_
            intro f h' hk
            cases fl with
            | true => exact ⟨hk.1, ih _ _ hk.2⟩
            | false => exact ih _ _ hk
      | two i fl t f t' ih ih' =>
        intro fr H h
        simp only [vT] at h ⊢
        split at h
        · rename_i o o' ho ho'
          refine ⟨vstep_weak h.1 ?_, vstep_weak h.2 fun f h' hk => ⟨hk.1, ih' _ _ hk.2⟩⟩
          intro f h' hk
          cases fl with
          | true => exact ⟨hk.1, ih _ _ hk.2⟩
          | false => exact ih _ _ hk
        · exact h
    exact weak t fr H h
  have hgt : ∀ i, i < ops.size → (Array.replicate ops.size false).getD i true = false := by
    intro i hi
    simp [Array.getD_eq_getD_getElem?, hi]
  refine drawF_any (B := B) (w0 := w0) hK h2 ops.size (Array.replicate ops.size false) canon fr H ρ w.drew a (by simp) h3 h1 ?_ ?_ ?_ hv hR.drew hF ?_
  · intro x hx
    exact ⟨h4 x hx, hgt x.1 (h4 x hx)⟩
  · intro i hi _
    obtain ⟨x, hx, rfl⟩ := h5 i hi
    exact ⟨x, hx, rfl⟩
  · intro j o hj hl
    rw [Array.getD_eq_getD_getElem?, Array.getElem?_replicate] at hl
    split at hl <;> simp at hl
  · rintro ρ' fr' H' a' w' hp ⟨g, hg, hq⟩ hR' hF'
    exact ⟨ρ', g, H', hp, hR', hF'.feq hg.symm, hq⟩

/-! The words of such a tree, for simp. -/

def vTK (P : Program) (N : Nat) (ops : Array Oper) (K : Fr → Heap → Prop) (t : Tree) (fr : Fr) (H : Heap) : Prop := vT P N ops K t fr H
def eTK (P : Program) (N : Nat) (ops : Array Oper) (K : Fr → Heap → Prop) (t : Tree) (fl : Bool) (H : Heap) (fr : Fr) (H' : Heap) : Prop :=
  match fl with
  | true => andK (H <+: H') (vT P N ops K t fr H')
  | false => vT P N ops K t fr H'
def vTo (P : Program) (N : Nat) (ops : Array Oper) (K : Fr → Heap → Prop) (t : Tree) (fl : Bool) (fr : Fr) (H : Heap) (o : Oper) : Prop :=
  match isR o.op with
  | true => vstep P N ops o (vTK P N ops K t) fr H
  | false => vstep P N ops o (eTK P N ops K t fl H) fr H
def vTe (P : Program) (N : Nat) (ops : Array Oper) (K : Fr → Heap → Prop) (t : Tree) (fl : Bool) (fr : Fr) (H : Heap) (o : Oper) : Prop := vstep P N ops o (eTK P N ops K t fl H) fr H

theorem vT_nil (K : Fr → Heap → Prop) (fr : Fr) (H : Heap) : vT P N ops K .nil fr H = K fr H := rfl
theorem eTK_eq (K : Fr → Heap → Prop) (t : Tree) (fl : Bool) (H : Heap) : eK fl H (vT P N ops K t) = eTK P N ops K t fl H := by
  funext f h
  cases fl <;> rfl
theorem vT_one (K : Fr → Heap → Prop) (i : Nat) (fl : Bool) (t : Tree) (fr : Fr) (H : Heap) : vT P N ops K (.one i fl t) fr H = bindO ops[i]? (vTo P N ops K t fl fr H) := by
  simp only [vT]
  cases ops[i]? with
  | none => simp [bindO]
  | some o =>
    simp only [bindO_some, vTo]
    cases isR o.op with
    | true => rfl
    | false => simp only [eTK_eq]
theorem vT_two {i : Nat} {fl : Bool} {t : Tree} {f : Nat} {t' : Tree} {K : Fr → Heap → Prop} {fr : Fr} {H : Heap} (h1 : bindO ops[i]? (vTe P N ops K t fl fr H)) (h2 : bindO ops[f]? (vTe P N ops K t' true fr H)) : vT P N ops K (.two i fl t f t') fr H := by
  simp only [vT]
  cases ho : ops[i]? with
  | none => simp [ho, bindO] at h1
  | some o =>
    cases ho' : ops[f]? with
    | none => simp [ho', bindO] at h2
    | some o' =>
      simp only [ho, ho', bindO_some, vTe] at h1 h2 ⊢
      exact ⟨by rw [eTK_eq]; exact h1, by rw [eTK_eq]; exact h2⟩

attribute [go_sem] vTK eTK vTo vTe vT_nil vT_one

end
end Go.Ab
end

section
/- Less: the blocks of a list that are not in another one, on both sides. -/
set_option linter.all false
set_option maxRecDepth 20000
set_option maxHeartbeats 8000000
namespace Go.Proofs.Ytdfeoccjllljiaa
open Go.Ab Go.Sort

theorem blocks_lt {H : Heap} {u : Value} {bs : List Bk} (h : BlocksAt H u bs) : ∃ i o, u = lv 3 i o bs.length ∧ At H i o (tri bs) ∧ bs.length ≤ 140737488355328 ∧ (tri bs ≠ [] → i < H.length) := by
  obtain ⟨i, o, h1, h2, h3⟩ := h
  refine ⟨i, o, h1, h2, h3, fun hn => ?_⟩
  rcases h2 with e | e
  · exact absurd e hn
  · obtain ⟨blk, hb, _⟩ := cellsAt_inv e
    exact (List.getElem?_eq_some_iff.1 hb).1

theorem lessTells {H0 H : Heap} {w : Value} {y : List Bk} {bid id : Nat} (hb : Holds H0 bid [w]) (hy : BlocksAt H0 w y) (hp : H0 <+: H) (hid : H0.length ≤ id) : TellsS 144 [] [.pointer (some ⟨bid, 0, none⟩)] (memB y) id H := by
  intro H' x Post hs h
  obtain ⟨i, o, rfl, h1, h2, h3⟩ := blocks_lt hy
  have hbl : bid < H0.length := by obtain ⟨ow, hb⟩ := hb; exact (List.getElem?_eq_some_iff.1 hb).1
  have hb' : Holds H' bid [lv 3 i o y.length] := (hb.pre hp).keepS hs (by omega)
  have hy' : BlocksAt H' (lv 3 i o y.length) y := ⟨i, o, rfl, At.keepS hs (h1.pre hp) (fun hn => by have := h3 hn; omega), h2⟩
  have c1 : cellsAt H' bid 0 1 = some [lv 3 i o y.length] := hb'.cell rfl
  simp only [List.nil_append]
  refine acalls_vc (rs := [.tmp 3]) Try.func144 rfl rfl Try.ntmps144 rfl rfl ?_
  simp (maxSteps := 1000000) [go_sem, Bk.val]
  have hp2 : H' <+: H' ++ [⟨[.int .i64 x.a, .int .i64 x.b, .int .i64 x.c], true, true⟩] := List.prefix_append _ _
  have c2 := cellsAt_mono hp2 c1
  have hx2 := Holds.last H' [.int .i64 x.a, .int .i64 x.b, .int .i64 x.c]
  have c3 : cellsAt (H' ++ [⟨[.int .i64 x.a, .int .i64 x.b, .int .i64 x.c], true, true⟩]) H'.length 0 3 = some [.int .i64 x.a, .int .i64 x.b, .int .i64 x.c] := by simpa using hx2.cells (n := 3) (o := 0) (by simp)
  simp (maxSteps := 1000000) [go_sem, c2, c3]
  refine slicesContainsB_ok (b := x) (hy'.pre hp2) _ ?_
  intro H2 hp3
  simp (maxSteps := 1000000) [go_sem]
  exact h H2 (hp2.trans hp3)

theorem less_oe {H : Heap} {u w : Value} {x y : List Bk} (hu : BlocksAt H u x) (hw : BlocksAt H w y) (hl : x.length ≤ 1048576) (Post : Value → Heap → Prop)
    (h : ∀ H' v, H <+: H' → OE 3 H.length H' v (tri (lessB x y)) (lessB x y).length → Post v H') : ACalls Try.prog 90 [u, w] H Post := by
  refine ACalls.addGhost ?_
  have hpg : H <+: H ++ [⟨[], false, false⟩] := List.prefix_append _ _
  have hg : ghostAt (H ++ [⟨[], false, false⟩]) H.length = true := by simp [ghostAt]
  have hgl : (H ++ [(⟨[], false, false⟩ : Blk)]).length = H.length + 1 := by simp
  generalize H ++ [(⟨[], false, false⟩ : Blk)] = HG at *
  refine ACalls.resH ?_
  refine acalls_vc (rs := [.tmp 4]) Try.func90 rfl rfl Try.ntmps90 rfl rfl ?_
  have hwc : ∃ j q, w = lv 3 j q y.length ∧ At H j q (tri y) ∧ y.length ≤ 140737488355328 := hw
  obtain ⟨wj, wq, ew, _, _⟩ := hwc
  subst ew
  simp (maxSteps := 1000000) [go_sem]
  have hp0 : HG <+: HG ++ [⟨[lv 3 wj wq y.length], true, true⟩] := List.prefix_append _ _
  have hx0 := Holds.last HG [lv 3 wj wq y.length]
  have hl0 : (HG ++ [(⟨[lv 3 wj wq y.length], true, true⟩ : Blk)]).length = HG.length + 1 := by simp
  generalize HG ++ [(⟨[lv 3 wj wq y.length], true, true⟩ : Blk)] = H0 at *
  refine cloneB_oe (hu.pre (hpg.trans hp0)) hl _ ?_
  intro H1 v hp1 hv
  have tells : ∀ (id : Nat), H0.length ≤ id → TellsS 144 [] [.pointer (some ⟨HG.length, 0, none⟩)] (memB y) id H1 := fun id hid => lessTells hx0 (hw.pre (hpg.trans hp0)) hp1 hid
  have keepG : ∀ {H2 : Heap}, HG <+: H2 → ghostAt H2 H.length = true := by
    intro H2 hp
    obtain ⟨b, e1, e2, e3⟩ := ghostAt_inv hg
    have := Same.get (S := fun _ => False) (Same.of_prefix hp) e1 (fun h => h)
    simp [ghostAt, this, e2, e3]
  by_cases hx : x = []
  · subst hx
    have empty : ∀ (H2 : Heap), H1 <+: H2 → ∀ id, H.length ≤ id → (ghostAt H2 id = true ∨ ownAt H2 id = true) → Post (lv 3 id 0 0) H2 := by
      intro H2 hp2 id hid hgo
      exact h H2 _ (hpg.trans (hp0.trans (hp1.trans hp2))) ⟨rfl, .inr (.inr ⟨id, hid, rfl, .inl ⟨rfl, hgo⟩⟩)⟩
    simp (maxSteps := 1000000) [go_sem]
    rcases hv.2 with ⟨_, rfl⟩ | ⟨id, _, hid, rfl, hb⟩ | ⟨id, hid, rfl, hb⟩
    · refine ACalls.up (args' := [lv 3 H.length 0 0, .func (.func 144) #[] #[.pointer (some ⟨HG.length, 0, none⟩)]]) ⟨Up.nil _ _ _ _, Up.refl _ _, trivial⟩ ?_
      refine deleteFunc0_ok (fs := []) (cs := [.pointer (some ⟨HG.length, 0, none⟩)]) _ ?_
      intro H2 hp2
      simp (maxSteps := 1000000) [go_sem]
      exact ⟨_, Up.refl _ _, H2, upH.refl _, empty H2 hp2 H.length (by omega) (.inl (keepG (hp0.trans (hp1.trans hp2))))⟩
    · refine ACalls.up (args' := [lv 3 H.length 0 0, .func (.func 144) #[] #[.pointer (some ⟨HG.length, 0, none⟩)]]) ⟨Up.ex0 _ _ _ _ _ _, Up.refl _ _, trivial⟩ ?_
      refine deleteFunc0_ok (fs := []) (cs := [.pointer (some ⟨HG.length, 0, none⟩)]) _ ?_
      intro H2 hp2
      simp (maxSteps := 1000000) [go_sem]
      exact ⟨_, Up.refl _ _, H2, upH.refl _, empty H2 hp2 H.length (by omega) (.inl (keepG (hp0.trans (hp1.trans hp2))))⟩
    · refine deleteFunc0_ok (fs := []) (cs := [.pointer (some ⟨HG.length, 0, none⟩)]) _ ?_
      intro H2 hp2
      have hgo : ghostAt H1 id = true ∨ ownAt H1 id = true := by
        rcases hb with ⟨_, e⟩ | e
        · exact e
        · right; simp [ownAt, e]
      have hgo2 : ghostAt H2 id = true ∨ ownAt H2 id = true := by
        rcases hgo with e | e
        · left
          obtain ⟨b, e1, e2, e3⟩ := ghostAt_inv e
          have := Same.get (S := fun _ => False) (Same.of_prefix hp2) e1 (fun h => h)
          simp [ghostAt, this, e2, e3]
        · right
          unfold ownAt at e ⊢
          cases hb1 : H1[id]? with
          | none => simp [hb1] at e
          | some b =>
            have := Same.get (S := fun _ => False) (Same.of_prefix hp2) hb1 (fun h => h)
            simpa [this, hb1] using e
      simp (maxSteps := 1000000) [go_sem]
      exact ⟨_, Up.refl _ _, H2, upH.refl _, empty H2 hp2 id (by omega) hgo2⟩
  · have hxl : x.length ≠ 0 := by simpa using hx
    obtain ⟨id, hid, rfl, hb⟩ : ∃ id, H0.length ≤ id ∧ v = lv 3 id 0 x.length ∧ H1[id]? = some ⟨tri x, true, true⟩ := by
      rcases hv.2 with ⟨e, _⟩ | ⟨id, e, _⟩ | ⟨id, hid, e1, ⟨e, _⟩ | e⟩
      · exact absurd e hxl
      · exact absurd e hxl
      · exact absurd e hxl
      · exact ⟨id, hid, e1, e⟩
    simp (maxSteps := 1000000) [go_sem]
    refine deleteFuncB_ok (fs := []) (cs := [.pointer (some ⟨HG.length, 0, none⟩)]) hb rfl hl (tells id hid) _ ?_
    intro H2 rest hs2 hb2
    have hlt := (List.getElem?_eq_some_iff.1 hb2).1
    have hp3 : H <+: H2.set id ⟨tri (lessB x y), true, true⟩ := ((Same.of_prefix (hpg.trans (hp0.trans hp1))).trans (hs2.trans same_set)).prefix (by have := hpg.length_le; intro j hj e; omega)
    have fin := h _ (lv 3 id 0 (lessB x y).length) hp3 ⟨by rw [tri_length], .inr (.inr ⟨id, by omega, rfl, .inr (List.getElem?_set_self hlt)⟩)⟩
    simp (maxSteps := 1000000) [go_sem]
    exact ⟨_, Up.refl _ _, _, upH.cut hb2, fin⟩

theorem less_ok {H : Heap} {u w : Value} {x y : List Bk} (hu : BlocksAt H u x) (hw : BlocksAt H w y) (hl : x.length ≤ 1048576) (Post : Value → Heap → Prop)
    (h : ∀ H' v, H <+: H' → BlocksIn H.length H'.length H' v (lessB x y) → Post v H') : ACalls Try.prog 90 [u, w] H Post := by
  refine ACalls.res (less_oe hu hw hl _ fun H' v hp he => ?_)
  have hll : (lessB x y).length ≤ x.length := List.length_filter_le _ _
  obtain ⟨w, hup, hw⟩ := he.blocks (by omega)
  exact ⟨w, hup, h H' w hp hw⟩

theorem l04Less_oe {H : Heap} {u w : Value} {x y : List Bk} (hu : BlocksAt H u x) (hw : BlocksAt H w y) (hl : x.length ≤ 1048576) (Post : Value → Heap → Prop)
    (h : ∀ H' id, H <+: H' → H.length ≤ id → OL 3 H' id (tri (lessB x y)) (lessB x y).length → Post (lv 3 id 0 (lessB x y).length) H') : ACalls Try.prog 88 [u, w] H Post := by
  obtain ⟨i, o, rfl, h1, h2⟩ := hu
  refine ACalls.res ?_
  refine acalls_vc (rs := [.tmp 4]) Try.func88 rfl rfl Try.ntmps88 rfl rfl ?_
  simp (maxSteps := 1000000) [go_sem]
  have ow := hw.one
  refine AWp.loopVc (St := Nat × Nat) (fun s => [(0, lv 3 i o x.length), (1, w), (5, lv 3 s.2 0 (lessB (x.take s.1) y).length), (6, .int .i64 s.1)])
    (fun s H' => s.1 ≤ x.length ∧ Bl 3 H H' s.2 (tri (lessB (x.take s.1) y)) (lessB (x.take s.1) y).length) (fun s => x.length - s.1) (0, H.length) ?_ ?_ ?_
  · simp [upF, Fr.get, Up.refl, lessB, Up.ex0]
  · exact ⟨by simp, by simpa [lessB, tri] using Bl.nil 3 H⟩
  · rintro K ⟨s, id⟩ H' ⟨hs, hbl⟩ hK
    simp only at hs hbl
    by_cases hlt : s < x.length
    · have hw_s : IntKind.i64.wrap ((s : Int) + 1) = (s : Int) + 1 := i64w (by omega) (by omega)
      have c0 : ∀ {H2 : Heap}, H <+: H2 → cellsAt H2 i (o + s * 3) 3 = some x[s].cells := fun hp => (h1.pre hp).bk (List.getElem?_eq_getElem hlt)
      have htk := List.take_succ_eq_append_getElem hlt
      have c1 := c0 hbl.1
      generalize x[s] = b at *
      simp only [Bk.cells] at c1 c0
      have hll : (lessB (x.take s) y).length ≤ s := Nat.le_trans (List.length_filter_le _ _) (by simp; omega)
      simp (maxSteps := 1000000) [go_sem, hlt, c1]
      refine l04Member_ok (b := b) (hw.pre hbl.1) _ ?_
      intro H2 hp2
      have hbl2 := hbl.pre hp2
      have c2 := c0 (hbl.1.trans hp2)
      cases hm : memB y b with
      | true =>
        have e : lessB (x.take (s + 1)) y = lessB (x.take s) y := by rw [htk]; simp [lessB, hm]
        simp (maxSteps := 1000000) [go_sem, hw_s]
        refine hK (s + 1, id) _ _ (by simp only; omega) ?_ ⟨by simp only; omega, by simp only; rw [e]; exact hbl2⟩
        simp only [e]
        simp [upF, Fr.get, Up.refl]
      | false =>
        have e : lessB (x.take (s + 1)) y = lessB (x.take s) y ++ [b] := by rw [htk]; simp [lessB, hm]
        obtain ⟨hsrc, H4, hap, hbl4⟩ := hbl2.push (xs := [.int .i64 b.a, .int .i64 b.b, .int .i64 b.c]) (by omega) rfl
        have e2 : tri (lessB (x.take s) y) ++ [.int .i64 b.a, .int .i64 b.b, .int .i64 b.c] = tri (lessB (x.take (s + 1)) y) := by rw [e, tri_append]; rfl
        rw [e2] at hbl4
        have e3 : (lessB (x.take (s + 1)) y).length = (lessB (x.take s) y).length + 1 := by rw [e]; simp
        generalize (lessB (x.take s) y).length = n at *
        simp (maxSteps := 1000000) [go_sem, hlt, c2, hsrc, hap, hw_s]
        refine andK_intro (by omega) (hK (s + 1, H2.length + 1) _ _ (by simp only; omega) ?_ ⟨by simp only; omega, by simp only; rw [e3]; exact hbl4⟩)
        simp only [e3]
        simp [upF, Fr.get, Up.refl]
    · have : s = x.length := by omega
      subst this
      rw [List.take_length] at hbl
      simp (maxSteps := 1000000) [go_sem]
      exact ⟨_, Up.refl _ _, h H' id hbl.1 hbl.2.2 hbl.2.1⟩

theorem l04Less_ok {H : Heap} {u w : Value} {x y : List Bk} (hu : BlocksAt H u x) (hw : BlocksAt H w y) (hl : x.length ≤ 1048576) (Post : Value → Heap → Prop)
    (h : ∀ H' v, H <+: H' → BlocksIn H.length H'.length H' v (lessB x y) → Post v H') : ACalls Try.prog 88 [u, w] H Post := by
  have hll : (lessB x y).length ≤ x.length := List.length_filter_le _ _
  refine l04Less_oe hu hw hl _ fun H' id hp hid ho => h H' _ hp ⟨id, ⟨rfl, ?_, by omega⟩, fun _ => ⟨hid, ho.lt⟩⟩
  rcases ho.2 with ⟨e, _⟩ | e
  · left; exact List.eq_nil_of_length_eq_zero e
  · right; exact e

end Go.Proofs.Ytdfeoccjllljiaa
end
