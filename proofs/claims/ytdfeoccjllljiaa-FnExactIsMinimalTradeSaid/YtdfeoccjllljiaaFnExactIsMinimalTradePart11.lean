/- Part 11 of what the proof of the law FnExactIsMinimalTrade rests on: contracts of functions of the program, for every argument that each names; no statement of the seat is proved here. -/
import Derived.Test.YtdfeoccjllljiaaFnExactIsMinimalTradePart10

section
/- The blocks all pairs of which are in other blocks: both sides (partner, l04Inner). -/
set_option linter.all false
set_option maxRecDepth 20000
set_option maxHeartbeats 8000000
namespace Go.Proofs.Ytdfeoccjllljiaa
open Go.Ab Go.Sort

/-- All pairs of a block are in these blocks. -/
def coverB (o : List Bk) (b : Bk) : Bool := decide ((b.a, b.b) ∈ pairsB o) && (decide ((b.a, b.c) ∈ pairsB o) && decide ((b.b, b.c) ∈ pairsB o))
def innerB (i o : List Bk) : List Bk := i.filter (coverB o)
theorem innerB_le (i o : List Bk) : (innerB i o).length ≤ i.length := List.length_filter_le _ _

theorem third_pair {o : List Bk} (hg : ∀ x ∈ o, good 15 x = true) {p q : Int} (hpq : p < q) : decide (third o p q ≠ -1) = decide ((p, q) ∈ pairsB o) := by
  have h := third_neg hg (p := p) (q := q) (by omega)
  apply decide_eq_decide.2
  rw [Ne, h]
  constructor
  · intro hn
    obtain ⟨x, hx⟩ := Classical.not_forall.1 hn
    obtain ⟨hx, hx2⟩ := Classical.not_imp.1 hx
    have hx2 := Classical.not_not.1 hx2
    have hgx := hg x hx
    rw [good_iff] at hgx
    refine mem_pairsB.2 ⟨x, hx, ?_⟩
    simp only [Bk.has, Bool.or_eq_true, beq_iff_eq, decide_eq_true_eq] at hx2
    simp only [prs, List.mem_cons, List.not_mem_nil, or_false, Prod.mk.injEq]
    omega
  · intro hm hall
    obtain ⟨x, hx, hp⟩ := mem_pairsB.1 hm
    exact hall x hx (prs_has hp)

theorem partner_ok {H : Heap} {u w : Value} {o i : List Bk} (hu : BlocksAt H u o) (hw : BlocksAt H w i) (hg : ∀ x ∈ o, good 15 x = true) (hF : Fits o) (hgi : ∀ x ∈ i, good 15 x = true) (hl : i.length ≤ 1048576) (hlo : o.length ≤ 1048576) (Post : Value → Heap → Prop)
    (h : ∀ H' v, H <+: H' → BlocksIn H.length H'.length H' v (innerB i o) → Post (.tuple #[v, .bool (decide ((innerB i o).length = o.length))]) H') : ACalls Try.prog 173 [u, w] H Post := by
  obtain ⟨j, q, rfl, h1, h2⟩ := hw
  obtain ⟨j0, q0, rfl, g1, g2⟩ := hu
  refine ACalls.res ?_
  refine acalls_vc (rs := [.tmp 4, .tmp 5]) Try.func173 rfl rfl Try.ntmps173 rfl rfl ?_
  simp (maxSteps := 1000000) [go_sem]
  refine gridOf_ok ⟨j0, q0, rfl, g1, g2⟩ hg _ (fun H' _ hn => absurd hF hn) ?_
  intro H1 gid gs hp1 _ hga hgo _
  simp (maxSteps := 1000000) [go_sem]
  refine AWp.addGhost ?_
  refine AWp.loopVc (St := Nat × Nat) (fun s => [(0, lv 3 j0 q0 o.length), (6, .pointer (some ⟨gid, 0, none⟩)), (8, lv 3 s.2 0 (innerB (i.take s.1) o).length), (16, lv 3 j q i.length), (17, .int .i64 i.length), (18, .int .i64 s.1)])
    (fun s H' => s.1 ≤ i.length ∧ Bl 3 H1 H' s.2 (tri (innerB (i.take s.1) o)) (innerB (i.take s.1) o).length) (fun s => i.length - s.1) (0, H1.length) ?_ ?_ ?_
  · simp [upF, Fr.get, Up.refl, innerB, Up.nil]
  · exact ⟨by simp, by simpa [innerB, tri] using Bl.ghost 3 H1⟩
  · rintro K ⟨s, id⟩ H' ⟨hs, hbl⟩ hK
    simp only at hs hbl
    by_cases hlt : s < i.length
    · have hw_s : IntKind.i64.wrap ((s : Int) + 1) = (s : Int) + 1 := i64w (by omega) (by omega)
      have hbs : i[s]? = some i[s] := List.getElem?_eq_getElem hlt
      have c1 := (h1.pre (hp1.trans hbl.1)).bk hbs
      have htk := List.take_succ_eq_append_getElem hlt
      obtain ⟨a, b, c, hb, hab, hbc, hc15⟩ := good_nat (hgi _ (List.mem_of_getElem? hbs)) (Int.le_refl _)
      rw [hb] at c1 htk
      simp only [Bk.cells] at c1
      have hll : (innerB (i.take s) o).length ≤ s := Nat.le_trans (innerB_le _ _) (by simp; omega)
      have hp2 : H' <+: H' ++ [⟨[.int .i64 (a : Int), .int .i64 (b : Int), .int .i64 (c : Int)], true, true⟩] := List.prefix_append _ _
      have hbl2 := hbl.pre hp2
      have hga2 := (hga.keep hbl.1).keep hp2
      have hx2 := Holds.last H' [.int .i64 (a : Int), .int .i64 (b : Int), .int .i64 (c : Int)]
      obtain ⟨e0, e1, e2, e3⟩ := (show Holds (H' ++ [⟨[.int .i64 (a : Int), .int .i64 (b : Int), .int .i64 (c : Int)], true, true⟩]) H'.length (Bk.cells ⟨a, b, c⟩) from hx2).bk
      have l1 := hga2.load (k := a * 15 + b) (by omega)
      have l2 := hga2.load (k := a * 15 + c) (by omega)
      have l3 := hga2.load (k := b * 15 + c) (by omega)
      have n1 : gs.getD (a * 15 + b) 0 = third o a b := by have := hgo.2 a b (by omega) (by omega); rw [if_neg (by omega)] at this; exact this
      have n2 : gs.getD (a * 15 + c) 0 = third o a c := by have := hgo.2 a c (by omega) (by omega); rw [if_neg (by omega)] at this; exact this
      have n3 : gs.getD (b * 15 + c) 0 = third o b c := by have := hgo.2 b c (by omega) (by omega); rw [if_neg (by omega)] at this; exact this
      rw [n1] at l1; rw [n2] at l2; rw [n3] at l3
      have ecov : coverB o ⟨a, b, c⟩ = (decide (third o a b ≠ -1) && (decide (third o a c ≠ -1) && decide (third o b c ≠ -1))) := by
        rw [third_pair hg (by omega), third_pair hg (by omega), third_pair hg (by omega)]; rfl
      have a15 : a < 15 := by omega
      have b15 : b < 15 := by omega
      have c15 : c < 15 := by omega
      have a15' : (a : Int) < 15 := by omega
      have b15' : (b : Int) < 15 := by omega
      have c15' : (c : Int) < 15 := by omega
      generalize third o a b = t1 at *
      generalize third o a c = t2 at *
      generalize third o b c = t3 at *
      have no : coverB o ⟨a, b, c⟩ = false → innerB (i.take (s + 1)) o = innerB (i.take s) o := by
        intro hc; rw [htk]; simp [innerB, hc]
      simp (maxSteps := 1000000) [go_sem, hlt, c1]
      generalize H' ++ [(⟨[.int .i64 (a : Int), .int .i64 (b : Int), .int .i64 (c : Int)], true, true⟩ : Blk)] = H2 at *
      have yes : coverB o ⟨a, b, c⟩ = true → ∃ H4, innerB (i.take (s + 1)) o = innerB (i.take s) o ++ [⟨a, b, c⟩] ∧
          cellsAt (H2 ++ [⟨[.int .i64 (a : Int), .int .i64 (b : Int), .int .i64 (c : Int)], true, true⟩]) H2.length 0 3 = some [.int .i64 (a : Int), .int .i64 (b : Int), .int .i64 (c : Int)] ∧
          appendH (H2 ++ [⟨[.int .i64 (a : Int), .int .i64 (b : Int), .int .i64 (c : Int)], true, true⟩]) 3 (lv 3 id 0 (innerB (i.take s) o).length) 1 [.int .i64 (a : Int), .int .i64 (b : Int), .int .i64 (c : Int)] = some (lv 3 (H2.length + 1) 0 ((innerB (i.take s) o).length + 1), H4) ∧
          Bl 3 H1 H4 (H2.length + 1) (tri (innerB (i.take (s + 1)) o)) (innerB (i.take (s + 1)) o).length := by
        intro hc
        have e : innerB (i.take (s + 1)) o = innerB (i.take s) o ++ [⟨a, b, c⟩] := by rw [htk]; simp [innerB, hc]
        obtain ⟨hsrc, H4, hap, hbl4⟩ := hbl2.push (xs := [.int .i64 (a : Int), .int .i64 (b : Int), .int .i64 (c : Int)]) (by omega) rfl
        refine ⟨H4, e, hsrc, hap, ?_⟩
        rw [e, tri_append, List.length_append]
        exact hbl4
      refine AWp.draw mixed [(0, false), (1, false), (2, false), (3, false), (4, false), (5, false), (6, false), (7, false), (8, false), (9, false), (10, false), (11, false), (12, false), (13, false), (14, false), (15, false), (16, false), (17, false), (18, false), (19, false), (20, false), (21, false), (22, false), (23, false), (24, false), (25, false), (26, false), (27, false), (28, false), (29, false), (30, false), (31, false), (32, false), (33, false)] (by kernel_rfl) ?_
      have stay : coverB o ⟨a, b, c⟩ = false → ∀ fr, upF H2 [(0, lv 3 j0 q0 o.length), (6, .pointer (some ⟨gid, 0, none⟩)), (8, lv 3 id 0 (innerB (i.take s) o).length), (16, lv 3 j q i.length), (17, .int .i64 i.length), (18, .int .i64 ((s + 1 : Nat) : Int))] fr → K fr H2 := by
        intro hc fr hup
        have e := no hc
        exact hK (s + 1, id) _ _ (by simp only; omega) (by simp only [e]; exact hup) ⟨by simp only; omega, by simp only; rw [e]; exact hbl2⟩
      by_cases ht1 : t1 = -1
      · simp (maxSteps := 1000000) [go_sem, undef, e0, e1, e2, e3, l1, l2, l3, a15, b15, c15, a15', b15', c15', ht1, hw_s]
        exact stay (by rw [ecov]; simp [ht1]) _ (by simp [upF, Fr.get, Up.refl])
      · have ht1' : (t1 != -1) = true := by simpa using ht1
        by_cases ht2 : t2 = -1
        · simp (maxSteps := 1000000) [go_sem, undef, e0, e1, e2, e3, l1, l2, l3, a15, b15, c15, a15', b15', c15', ht1, ht1', ht2, hw_s]
          exact stay (by rw [ecov]; simp [ht2]) _ (by simp [upF, Fr.get, Up.refl])
        · have ht2' : (t2 != -1) = true := by simpa using ht2
          by_cases ht3 : t3 = -1
          · simp (maxSteps := 1000000) [go_sem, undef, e0, e1, e2, e3, l1, l2, l3, a15, b15, c15, a15', b15', c15', ht1, ht1', ht2, ht2', ht3, hw_s]
            exact stay (by rw [ecov]; simp [ht3]) _ (by simp [upF, Fr.get, Up.refl])
          · have ht3' : (t3 != -1) = true := by simpa using ht3
            obtain ⟨H4, e, q1, q2, q3⟩ := yes (by rw [ecov]; simp [ht1, ht2, ht3])
            have el : (innerB (i.take (s + 1)) o).length = (innerB (i.take s) o).length + 1 := by rw [e]; simp
            generalize (innerB (i.take s) o).length = n at *
            simp (maxSteps := 1000000) [go_sem, undef, e0, e1, e2, e3, l1, l2, l3, a15, b15, c15, a15', b15', c15', ht1, ht1', ht2, ht2', ht3, ht3', q1, q2, hw_s]
            refine andK_intro (by omega) (hK (s + 1, H2.length + 1) _ _ (by simp only; omega) ?_ ⟨by simp only; omega, q3⟩)
            simp only [el]
            simp [upF, Fr.get, Up.refl]
    · have : s = i.length := by omega
      subst this
      rw [List.take_length] at hbl
      have hll := innerB_le i o
      have hle := hp1.length_le
      have fin := h H' (lv 3 id 0 (innerB i o).length) (hp1.trans hbl.1) (by
        refine ⟨id, ⟨rfl, ?_, by omega⟩, fun _ => ⟨by have := hbl.2.2; omega, hbl.2.1.lt⟩⟩
        rcases hbl.2.1.2 with ⟨e, _⟩ | e
        · left; exact List.eq_nil_of_length_eq_zero e
        · right; exact e)
      have ed : (((innerB i o).length : Int) == (o.length : Int)) = decide ((innerB i o).length = o.length) := by
        by_cases e : (innerB i o).length = o.length <;> simp [e]; omega
      simp (maxSteps := 1000000) [go_sem, ed]
      first | exact ⟨_, Up.refl _ _, fin⟩ | (rw [ed]; exact ⟨_, Up.refl _ _, fin⟩)

end Go.Proofs.Ytdfeoccjllljiaa
end

section
/- The blocks all pairs of which are in other blocks: the specification's l04Inner. -/
set_option linter.all false
set_option maxRecDepth 20000
set_option maxHeartbeats 8000000
namespace Go.Proofs.Ytdfeoccjllljiaa
open Go.Ab Go.Sort

theorem code_mem {o : List Bk} (hg : ∀ x ∈ o, good 15 x = true) {x y : Nat} (hxy : x < y) (hy : y < 15) : decide (x * 16 + y ∈ codesB o) = decide (((x : Int), (y : Int)) ∈ pairsB o) := by
  apply decide_eq_decide.2
  unfold codesB
  rw [List.mem_map]
  have e : codeP ((x : Int), (y : Int)) = x * 16 + y := by simp only [codeP]; omega
  constructor
  · rintro ⟨p, hp, hc⟩
    have := code_inj (pairs_lt hg hp) (q := ((x : Int), (y : Int))) (by simp only; omega) (by rw [hc, e])
    rwa [this] at hp
  · exact fun h => ⟨_, h, e⟩

theorem l04Inner_ok {H : Heap} {u w : Value} {o i : List Bk} (hu : BlocksAt H u o) (hw : BlocksAt H w i) (hg : ∀ x ∈ o, good 15 x = true) (hgi : ∀ x ∈ i, good 15 x = true) (hl : i.length ≤ 1048576) (hlo : o.length ≤ 1048576) (Post : Value → Heap → Prop)
    (h : ∀ H' v, H <+: H' → BlocksIn H.length H'.length H' v (innerB i o) → Post v H') : ACalls Try.prog 134 [w, u] H Post := by
  obtain ⟨j, q, rfl, h1, h2⟩ := hw
  refine ACalls.res ?_
  refine acalls_vc (rs := [.tmp 4]) Try.func134 rfl rfl Try.ntmps134 rfl rfl ?_
  simp (maxSteps := 1000000) [go_sem]
  refine l04Pairs_ok hu hg hlo _ ?_
  intro H1 pid hp1 hb1
  simp (maxSteps := 1000000) [go_sem]
  have bl0 := Bl.nil 3 H1
  generalize H1 ++ [(⟨[], true, true⟩ : Blk)] = HX at bl0 ⊢
  refine AWp.loopVc (St := Nat × Nat) (fun s => [(0, lv 3 j q i.length), (5, .slice (some ⟨pid, 0, none⟩) 256 256), (6, lv 3 s.2 0 (innerB (i.take s.1) o).length), (7, .int .i64 s.1)])
    (fun s H' => s.1 ≤ i.length ∧ Bl 3 H1 H' s.2 (tri (innerB (i.take s.1) o)) (innerB (i.take s.1) o).length) (fun s => i.length - s.1) (0, H1.length) ?_ ?_ ?_
  · simp [upF, Fr.get, Up.refl, innerB, Up.ex0]
  · exact ⟨by simp, by simpa [innerB, tri] using bl0⟩
  · rintro K ⟨s, id⟩ H' ⟨hs, hbl⟩ hK
    simp only at hs hbl
    by_cases hlt : s < i.length
    · have hw_s : IntKind.i64.wrap ((s : Int) + 1) = (s : Int) + 1 := i64w (by omega) (by omega)
      have hbs : i[s]? = some i[s] := List.getElem?_eq_getElem hlt
      have c1 := (h1.pre (hp1.trans hbl.1)).bk hbs
      have htk := List.take_succ_eq_append_getElem hlt
      obtain ⟨a, b, c, hb, hab, hbc, hc15⟩ := good_nat (hgi _ (List.mem_of_getElem? hbs)) (Int.le_refl _)
      rw [hb] at c1 htk
      simp only [Bk.cells] at c1
      have hll : (innerB (i.take s) o).length ≤ s := Nat.le_trans (innerB_le _ _) (by simp; omega)
      have hp2 : H' <+: H' ++ [⟨[.int .i64 (a : Int), .int .i64 (b : Int), .int .i64 (c : Int)], true, true⟩] := List.prefix_append _ _
      have hbl2 := hbl.pre hp2
      have hpb : (H' ++ [(⟨[.int .i64 (a : Int), .int .i64 (b : Int), .int .i64 (c : Int)], true, true⟩ : Blk)])[pid]? = some ⟨metC 256 (codesB o), true, true⟩ := Same.get (S := fun _ => False) (Same.of_prefix (hbl.1.trans hp2)) hb1 (fun h => h)
      have hx2 := Holds.last H' [.int .i64 (a : Int), .int .i64 (b : Int), .int .i64 (c : Int)]
      obtain ⟨e0, e1, e2, e3⟩ := (show Holds (H' ++ [⟨[.int .i64 (a : Int), .int .i64 (b : Int), .int .i64 (c : Int)], true, true⟩]) H'.length (Bk.cells ⟨a, b, c⟩) from hx2).bk
      simp (maxSteps := 1000000) [go_sem, hlt, c1]
      generalize H' ++ [(⟨[.int .i64 (a : Int), .int .i64 (b : Int), .int .i64 (c : Int)], true, true⟩ : Blk)] = H2 at *
      have ld : ∀ x y : Nat, x < y → y < 15 → cellsAt H2 pid (x * 16 + y) 1 = some [.bool (decide (((x : Int), (y : Int)) ∈ pairsB o))] := by
        intro x y hxy hy
        rw [← code_mem hg hxy hy]
        exact Holds.cell (H := H2) ⟨true, hpb⟩ (metC_get (by omega))
      have l1 := ld a b hab (by omega)
      have l2 := ld a c (by omega) hc15
      have l3 := ld b c hbc hc15
      have ecov : coverB o ⟨a, b, c⟩ = (decide (((a : Int), (b : Int)) ∈ pairsB o) && (decide (((a : Int), (c : Int)) ∈ pairsB o) && decide (((b : Int), (c : Int)) ∈ pairsB o))) := rfl
      have b1 : a * 16 + b < 256 := by omega
      have b2 : a * 16 + c < 256 := by omega
      have b3 : b * 16 + c < 256 := by omega
      have b1' : ((a * 16 + b : Nat) : Int) < 256 := by omega
      have b2' : ((a * 16 + c : Nat) : Int) < 256 := by omega
      have b3' : ((b * 16 + c : Nat) : Int) < 256 := by omega
      have p1 := fun Post => l04Pair_ok (H := H2) (x := a) (y := b) hab (by omega) Post
      have p2 := fun Post => l04Pair_ok (H := H2) (x := a) (y := c) (by omega) hc15 Post
      have p3 := fun Post => l04Pair_ok (H := H2) (x := b) (y := c) hbc hc15 Post
      generalize decide (((a : Int), (b : Int)) ∈ pairsB o) = t1 at *
      generalize decide (((a : Int), (c : Int)) ∈ pairsB o) = t2 at *
      generalize decide (((b : Int), (c : Int)) ∈ pairsB o) = t3 at *
      generalize a * 16 + b = n1 at *
      generalize a * 16 + c = n2 at *
      generalize b * 16 + c = n3 at *
      have yes : coverB o ⟨a, b, c⟩ = true → ∃ H4, innerB (i.take (s + 1)) o = innerB (i.take s) o ++ [⟨a, b, c⟩] ∧
          cellsAt (H2 ++ [⟨[.int .i64 (a : Int), .int .i64 (b : Int), .int .i64 (c : Int)], true, true⟩]) H2.length 0 3 = some [.int .i64 (a : Int), .int .i64 (b : Int), .int .i64 (c : Int)] ∧
          appendH (H2 ++ [⟨[.int .i64 (a : Int), .int .i64 (b : Int), .int .i64 (c : Int)], true, true⟩]) 3 (lv 3 id 0 (innerB (i.take s) o).length) 1 [.int .i64 (a : Int), .int .i64 (b : Int), .int .i64 (c : Int)] = some (lv 3 (H2.length + 1) 0 ((innerB (i.take s) o).length + 1), H4) ∧
          Bl 3 H1 H4 (H2.length + 1) (tri (innerB (i.take (s + 1)) o)) (innerB (i.take (s + 1)) o).length := by
        intro hc
        have e : innerB (i.take (s + 1)) o = innerB (i.take s) o ++ [⟨a, b, c⟩] := by rw [htk]; simp [innerB, hc]
        obtain ⟨hsrc, H4, hap, hbl4⟩ := hbl2.push (xs := [.int .i64 (a : Int), .int .i64 (b : Int), .int .i64 (c : Int)]) (by omega) rfl
        refine ⟨H4, e, hsrc, hap, ?_⟩
        rw [e, tri_append, List.length_append]
        exact hbl4
      have stay : coverB o ⟨a, b, c⟩ = false → ∀ fr, upF H2 [(0, lv 3 j q i.length), (5, .slice (some ⟨pid, 0, none⟩) 256 256), (6, lv 3 id 0 (innerB (i.take s) o).length), (7, .int .i64 ((s + 1 : Nat) : Int))] fr → K fr H2 := by
        intro hc fr hup
        have e : innerB (i.take (s + 1)) o = innerB (i.take s) o := by rw [htk]; simp [innerB, hc]
        exact hK (s + 1, id) _ _ (by simp only; omega) (by simp only [e]; exact hup) ⟨by simp only; omega, by simp only; rw [e]; exact hbl2⟩
      try simp (maxSteps := 1000000) [go_sem, e0, e1, e2, e3]
      refine p1 _ ?_
      cases t1 with
      | false =>
        simp (maxSteps := 1000000) [go_sem, undef, e0, e1, e2, e3, b1, b1', l1, hw_s]
        exact stay (by rw [ecov]; rfl) _ (by simp [upF, Fr.get, Up.refl])
      | true =>
        simp (maxSteps := 1000000) [go_sem, undef, e0, e1, e2, e3, b1, b1', l1, hw_s]
        refine p2 _ ?_
        cases t2 with
        | false =>
          simp (maxSteps := 1000000) [go_sem, undef, e0, e1, e2, e3, b2, b2', l2, hw_s]
          exact stay (by rw [ecov]; rfl) _ (by simp [upF, Fr.get, Up.refl])
        | true =>
          simp (maxSteps := 1000000) [go_sem, undef, e0, e1, e2, e3, b2, b2', l2, hw_s]
          refine p3 _ ?_
          cases t3 with
          | false =>
            simp (maxSteps := 1000000) [go_sem, undef, e0, e1, e2, e3, b3, b3', l3, hw_s]
            exact stay (by rw [ecov]; rfl) _ (by simp [upF, Fr.get, Up.refl])
          | true =>
            obtain ⟨H4, e, q1, q2, q3⟩ := yes (by rw [ecov]; rfl)
            have el : (innerB (i.take (s + 1)) o).length = (innerB (i.take s) o).length + 1 := by rw [e]; simp
            generalize (innerB (i.take s) o).length = n at *
            simp (maxSteps := 1000000) [go_sem, undef, e0, e1, e2, e3, b3, b3', l3, q1, q2, hw_s]
            refine andK_intro (by omega) (hK (s + 1, H2.length + 1) _ _ (by simp only; omega) ?_ ⟨by simp only; omega, q3⟩)
            simp only [el]
            simp [upF, Fr.get, Up.refl]
    · have : s = i.length := by omega
      subst this
      rw [List.take_length] at hbl
      have hll := innerB_le i o
      have hle := hp1.length_le
      have fin := h H' (lv 3 id 0 (innerB i o).length) (hp1.trans hbl.1) (by
        refine ⟨id, ⟨rfl, ?_, by omega⟩, fun _ => ⟨by have := hbl.2.2; omega, hbl.2.1.lt⟩⟩
        rcases hbl.2.1.2 with ⟨e, _⟩ | e
        · left; exact List.eq_nil_of_length_eq_zero e
        · right; exact e)
      simp (maxSteps := 1000000) [go_sem]
      exact ⟨_, Up.refl _ _, fin⟩

end Go.Proofs.Ytdfeoccjllljiaa
end

section
/- Subsets of a list in the order of places, and the first good one. Plain Lean. -/
set_option linter.all false
namespace Go.Proofs.Ytdfeoccjllljiaa
open Go.Ab

/-- All lists of k more elements than some, in the order of places. -/
def subs : Nat → List Bk → List Bk → List (List Bk)
  | 0, _, now => [now]
  | k + 1, rest, now => (List.range (rest.length - k)).flatMap fun i => subs k (rest.drop (i + 1)) (now ++ (rest[i]?).toList)
theorem find_none {α : Type} {p : α → Bool} {F : Nat → List α} {n : Nat} (h : ∀ i, i < n → (F i).find? p = none) : ((List.range n).flatMap F).find? p = none := by
  rw [List.find?_eq_none]
  intro x hx
  obtain ⟨i, hi, hxi⟩ := List.mem_flatMap.1 hx
  exact List.find?_eq_none.1 (h i (List.mem_range.1 hi)) x hxi
theorem find_some {α : Type} {p : α → Bool} {F : Nat → List α} {x : α} {s : Nat} (h : ∀ i, i < s → (F i).find? p = none) (hs : (F s).find? p = some x) : ∀ {n : Nat}, s < n → ((List.range n).flatMap F).find? p = some x
  | 0, hn => by omega
  | n + 1, hn => by
    rw [List.range_succ, List.flatMap_append, List.find?_append]
    by_cases e : s = n
    · subst e
      rw [find_none h]
      simp [hs]
    · rw [find_some h hs (n := n) (by omega)]; rfl
/-- A set of blocks that has a partner in others. -/
def okS (ins s : List Bk) : Bool := decide ((innerB ins s).length = s.length)
/-- The first set that has a partner. -/
def findP (ins : List Bk) (k : Nat) (rest now : List Bk) : Option (List Bk) := (subs k rest now).find? (okS ins)
theorem subs_sub : ∀ (k : Nat) (rest now s : List Bk), s ∈ subs k rest now → ∃ t, s = now ++ t ∧ t.Sublist rest ∧ t.length = k
  | 0, rest, now, s, h => by
    simp only [subs, List.mem_singleton] at h
    exact ⟨[], by simp [h], List.nil_sublist _, rfl⟩
  | k + 1, rest, now, s, h => by
    simp only [subs, List.mem_flatMap, List.mem_range] at h
    obtain ⟨i, hi, h⟩ := h
    have hl : i < rest.length := by omega
    obtain ⟨t, h1, h2, h3⟩ := subs_sub k _ _ s h
    rw [List.getElem?_eq_getElem hl] at h1
    refine ⟨rest[i] :: t, by simp [h1], ?_, by simp [h3]⟩
    have e : rest.drop i = rest[i] :: rest.drop (i + 1) := List.drop_eq_getElem_cons hl
    exact (List.Sublist.cons_cons rest[i] h2).trans (e ▸ List.drop_sublist i rest)
theorem Fits.sub {l m : List Bk} (h : Fits l) (hs : m.Sublist l) : Fits m := by
  have key : ∀ l : List Bk, Fits l ↔ l.Pairwise (fun x y => common y x ≤ 1) := by
    intro l
    rw [List.pairwise_iff_getElem]
    constructor
    · intro h i j hi hj hij
      exact h j i _ _ hij (List.getElem?_eq_getElem hj) (List.getElem?_eq_getElem hi)
    · intro h a b x y hab hx hy
      obtain ⟨h1, rfl⟩ := List.getElem?_eq_some_iff.1 hx
      obtain ⟨h2, rfl⟩ := List.getElem?_eq_some_iff.1 hy
      exact h b a h2 h1 hab
  exact (key m).2 (((key l).1 h).sublist hs)

end Go.Proofs.Ytdfeoccjllljiaa
end

section
/- The same with blocks from L on that are this region's own: they may be changed in between. It holds for every program. -/
set_option linter.all false
namespace Go.Ab
open Go.RowKit (Below)

section
variable {P : Program} {N : Nat} {ops : Array Oper} {L : Nat} {K : Fr → Heap → Prop} {fs : List Nat}

/-- With both ways at each effect. -/
def vFX (P : Program) (N : Nat) (ops : Array Oper) (L : Nat) (fs : List Nat) (K : Fr → Heap → Prop) : Nat → List (Nat × Bool) → Fr → Heap → Prop
  | _, [], fr, H => K fr H
  | 0, _ :: _, _, _ => False
  | n + 1, (i, fl) :: l, fr, H => match ops[i]? with
    | none => False
    | some o => match isR o.op with
      | true => offL L o.op fr ∧ vstep P N ops o (vFX P N ops L fs K n l) fr H
      | false => vstep P N ops o (eKX L fl H (vFX P N ops L fs K n l)) fr H ∧
          ∀ f, f ∈ fs → f ∈ l.map (·.1) → ∃ o', ops[f]? = some o' ∧ isR o'.op = false ∧ vstep P N ops o' (eKX L true H (vFX P N ops L fs K n ((i, fl) :: l.filter fun y => y.1 != f))) fr H

theorem eKX_closed {fl : Bool} {H : Heap} {T : Fr → Heap → Prop} (hT : Closed T) : Closed (eKX L fl H T) := by
  intro f g h' hfg hk
  cases fl with
  | true => exact ⟨hk.1, hT _ _ _ hfg hk.2⟩
  | false => exact hT _ _ _ hfg hk
theorem vFX_closed (hK : Closed K) : ∀ n l, Closed (vFX P N ops L fs K n l)
  | 0, [] => hK
  | n + 1, [] => hK
  | 0, _ :: _ => fun _ _ _ _ h => h
  | n + 1, (i, fl) :: l => by
    intro f g H hfg h
    simp only [vFX] at h ⊢
    split at h
    · exact h.elim
    · rename_i o ho
      cases hR : isR o.op with
      | true => simp only [hR] at h ⊢; exact ⟨offL_congr (fun x => feq.ev hfg x) h.1, vstep_closed (vFX_closed hK n l) hfg h.2⟩
      | false =>
        simp only [hR] at h ⊢
        refine ⟨vstep_closed (eKX_closed (vFX_closed hK n l)) hfg h.1, fun f hf hm => ?_⟩
        obtain ⟨o', h1, h2, h3⟩ := h.2 f hf hm
        exact ⟨o', h1, h2, vstep_closed (eKX_closed (vFX_closed hK n _)) hfg h3⟩

/-- Reads one after the other. -/
def seqRX (P : Program) (N : Nat) (ops : Array Oper) (L : Nat) (T : Fr → Heap → Prop) : List (Nat × Bool) → Fr → Heap → Prop
  | [], fr, H => T fr H
  | (j, _) :: l, fr, H => match ops[j]? with
    | none => False
    | some p => offL L p.op fr ∧ vstep P N ops p (seqRX P N ops L T l) fr H
theorem seqRX_closed {T : Fr → Heap → Prop} (hT : Closed T) : ∀ l, Closed (seqRX P N ops L T l)
  | [] => hT
  | (j, fj) :: l => by
    intro f g H hfg h
    simp only [seqRX] at h ⊢
    split at h
    · exact h.elim
    · exact ⟨offL_congr (fun x => feq.ev hfg x) h.1, vstep_closed (seqRX_closed hT l) hfg h.2⟩
theorem vFX_seqRX {n : Nat} {rest : List (Nat × Bool)} : ∀ (l1 : List (Nat × Bool)) (fr : Fr) (H : Heap), (∀ x ∈ l1, ∃ p, ops[x.1]? = some p ∧ isR p.op = true) →
    (vFX P N ops L fs K (l1.length + n) (l1 ++ rest) fr H ↔ seqRX P N ops L (vFX P N ops L fs K n rest) l1 fr H)
  | [], fr, H, _ => by simp [seqRX]
  | (j, fj) :: l1, fr, H, hl => by
    obtain ⟨p, hp, hR⟩ := hl (j, fj) (by simp)
    have ih := fun fr H => vFX_seqRX (n := n) (rest := rest) l1 fr H fun x hx => hl x (by simp [hx])
    rw [show ((j, fj) :: l1).length + n = (l1.length + n) + 1 by simp; omega]
    simp only [List.cons_append, vFX, seqRX, hp, hR]
    exact ⟨fun h => ⟨h.1, vstep_weak h.2 fun f h => (ih f h).1⟩, fun h => ⟨h.1, vstep_weak h.2 fun f h => (ih f h).2⟩⟩

theorem frontX_gen {o : Oper} {fl : Bool} {T T' : Fr → Heap → Prop} (hT : Closed T) (hT' : Closed T') (hstep : ∀ fr H, T fr H → vstep P N ops o (fun f h => relX L o fl H h ∧ T' f h) fr H) : ∀ (l1 : List (Nat × Bool)) (fr : Fr) (H : Heap),
    (∀ x ∈ l1, ∃ p, ops[x.1]? = some p ∧ isR p.op = true ∧ indep ops p o = true ∧ (readsH p.op = true → isR o.op = true ∨ fl = true)) →
    seqRX P N ops L T l1 fr H → vstep P N ops o (fun f h => relX L o fl H h ∧ seqRX P N ops L T' l1 f h) fr H
  | [], fr, H, _, h => hstep fr H h
  | (j, fj) :: l1, fr, H, hl, h => by
    obtain ⟨p, hp, hR, hin, hrd⟩ := hl (j, fj) (by simp)
    simp only [seqRX, hp] at h ⊢
    have hc1 := seqRX_closed (P := P) (N := N) (ops := ops) (L := L) hT l1
    have hc2 := seqRX_closed (P := P) (N := N) (ops := ops) (L := L) hT' l1
    obtain ⟨hoff, h⟩ := h
    obtain ⟨v, h1, h2⟩ := vstep_RX hR hc1 h
    have ih := frontX_gen hT hT' hstep l1 (fr.put p.dst v) H (fun x hx => hl x (by simp [hx])) h1
    obtain ⟨i1, i2, i3⟩ := indep_spec hin
    have hcK : Closed (fun f h => relX L o fl H h ∧ seqRX P N ops L T' l1 f h) := fun f g h hfg hk => ⟨hk.1, hc2 _ _ _ hfg hk.2⟩
    have hag : agreeG ops o (fr.put p.dst v) fr := agreeG.symm (agreeG.put i1)
    refine vstep_weak (vstep_E hcK ih hag) ?_
    rintro f h' ⟨u, hf, hrel, hv⟩
    have hvE : vstep P N ops p (seqRX P N ops L T' l1) (fr.put o.dst u) h' := by
      refine h2 (fr.put o.dst u) h' _ hc2 (agreeG.put i2) (fun i hi b hb => ?_) ?_
      · rw [hrel (hrd (by cases hr : readsH p.op with | true => rfl | false => rw [rdBlk_none hr] at hi; cases hi)) i (hoff i hi), hb]
      exact hc2 _ _ _ (put_comm fr i3 v u) hv
    exact ⟨hrel, offL_congr (fun x => feq.ev hf x) (offL_agree (agreeG.put i2).agree hoff), vstep_closed hc2 hf hvE⟩

theorem eKX_rel {o : Oper} {fl : Bool} {T : Fr → Heap → Prop} {fr : Fr} {H : Heap} (hR : isR o.op = false) (h : vstep P N ops o (eKX L fl H T) fr H) : vstep P N ops o (fun f h => relX L o fl H h ∧ T f h) fr H := by
  refine vstep_weak h ?_
  intro f h' hk
  cases fl with
  | true => exact ⟨fun _ => hk.1, hk.2⟩
  | false => exact ⟨fun e => by simp [hR] at e, hk⟩

/-- What is behind reads only comes first. -/
theorem vFX_front (hK : Closed K) {n i : Nat} {fl : Bool} {l1 l2 : List (Nat × Bool)} {o : Oper} (ho : ops[i]? = some o) {fr : Fr} {H : Heap}
    (hl1 : ∀ x ∈ l1, ∃ p, ops[x.1]? = some p ∧ isR p.op = true ∧ indep ops p o = true ∧ (readsH p.op = true → isR o.op = true ∨ fl = true))
    (h : vFX P N ops L fs K (l1.length + (n + 1)) (l1 ++ (i, fl) :: l2) fr H) : vstep P N ops o (fun f h => relX L o fl H h ∧ vFX P N ops L fs K (l1.length + n) (l1 ++ l2) f h) fr H := by
  have hl1' : ∀ x ∈ l1, ∃ p, ops[x.1]? = some p ∧ isR p.op = true := fun x hx => by obtain ⟨p, h1, h2, _⟩ := hl1 x hx; exact ⟨p, h1, h2⟩
  rw [vFX_seqRX l1 fr H hl1'] at h
  have hstep : ∀ fr H, vFX P N ops L fs K (n + 1) ((i, fl) :: l2) fr H → vstep P N ops o (fun f h => relX L o fl H h ∧ vFX P N ops L fs K n l2 f h) fr H := by
    intro fr H h
    simp only [vFX, ho] at h
    cases hR : isR o.op with
    | true =>
      simp only [hR] at h
      obtain ⟨_, h⟩ := h
      obtain ⟨v, h1, h2⟩ := vstep_RX hR (vFX_closed hK n l2) h
      refine h2 fr H _ ?_ (fun _ _ => rfl) (fun _ _ _ h => h) ⟨fun _ _ _ => rfl, h1⟩
      intro f g h hfg hk
      exact ⟨hk.1, vFX_closed hK n l2 _ _ _ hfg hk.2⟩
    | false => simp only [hR] at h; exact eKX_rel hR h.1
  refine vstep_weak (frontX_gen (vFX_closed hK _ _) (vFX_closed hK n l2) hstep l1 fr H hl1 h) ?_
  rintro f h' ⟨h1, h2⟩
  exact ⟨h1, (vFX_seqRX l1 f h' hl1').2 h2⟩
/-- What hangs on nothing comes ahead of the first effect. -/
theorem vFX_float (hK : Closed K) {n i f : Nat} {fl : Bool} {r1 l2 : List (Nat × Bool)} {o o' : Oper} (ho : ops[i]? = some o) (hE : isR o.op = false) (hf : ops[f]? = some o') (hff : f ∈ fs) (hfl : f ∈ l2.map (·.1)) {fr : Fr} {H : Heap}
    (hl1 : ∀ x ∈ r1, ∃ p, ops[x.1]? = some p ∧ isR p.op = true ∧ indep ops p o' = true)
    (h : vFX P N ops L fs K (r1.length + (n + 1)) (r1 ++ (i, fl) :: l2) fr H) : vstep P N ops o' (fun f' h => relX L o' true H h ∧ vFX P N ops L fs K (r1.length + n) (r1 ++ (i, fl) :: l2.filter fun y => y.1 != f) f' h) fr H := by
  have hl1' : ∀ x ∈ r1, ∃ p, ops[x.1]? = some p ∧ isR p.op = true := fun x hx => by obtain ⟨p, h1, h2, _⟩ := hl1 x hx; exact ⟨p, h1, h2⟩
  rw [vFX_seqRX r1 fr H hl1'] at h
  have hstep : ∀ fr H, vFX P N ops L fs K (n + 1) ((i, fl) :: l2) fr H → vstep P N ops o' (fun f' h => relX L o' true H h ∧ vFX P N ops L fs K n ((i, fl) :: l2.filter fun y => y.1 != f) f' h) fr H := by
    intro fr H h
    simp only [vFX, ho, hE] at h
    obtain ⟨o2, h1, h2, h3⟩ := h.2 f hff hfl
    rw [hf] at h1; cases h1
    exact eKX_rel h2 h3
  refine vstep_weak (frontX_gen (vFX_closed hK _ _) (vFX_closed hK n _) hstep r1 fr H (fun x hx => by obtain ⟨p, h1, h2, h3⟩ := hl1 x hx; exact ⟨p, h1, h2, h3, fun _ => .inr rfl⟩) h) ?_
  rintro f h' ⟨h1, h2⟩
  exact ⟨h1, (vFX_seqRX r1 f h' hl1').2 h2⟩

theorem drawFX_any {B : Nat} {w0 : World} {Q : Exit → Act → World → Prop} (hK : Closed K) (hedge : edgesOK ops = true) : ∀ (n : Nat) (listed : Array Bool) (l : List (Nat × Bool)) (fr : Fr) (H : Heap) (ρ : Rho) (w : World) (a : Act),
    listed.size = ops.size → l.length = n → pairsOKF ops fs (masksGo ops.toList []) l = true → (∀ x ∈ l, x.1 < ops.size ∧ listed.getD x.1 true = false) → (∀ i, i < ops.size → listed.getD i true = false → ∃ x ∈ l, x.1 = i) →
    (∀ (j : Nat) (o : Oper), ops[j]? = some o → listed.getD j false = true → ∀ e ∈ o.after.toList, Region.binds .any e = true → listed.getD e.on false = true) →
    vFX P N ops L fs K n l fr H → R B w0 ρ H w → FR N ρ fr a →
    (∀ (ρ' : Rho) (fr' : Fr) (H' : Heap) (a' : Act) (w' : World), ρ <+: ρ' → K fr' H' → R B w0 ρ' H' w' → FR N ρ' fr' a' → Q .normal a' w') → wpAny P .any ops Q n listed a w := by
  intro n
  have getD2 : ∀ (listed : Array Bool) (i : Nat), listed.size = ops.size → i < ops.size → listed.getD i true = listed.getD i false := by
    intro listed i h1 h2
    simp [Array.getD_eq_getD_getElem?, h1, h2]
  induction n with
  | zero =>
    intro listed l fr H ρ w a hsz hl hp hin hall hcl hv hR hF hq
    have : l = [] := List.eq_nil_of_length_eq_zero hl
    subst this
    refine ⟨?_, hq ρ fr H a w (List.prefix_refl _) hv hR hF⟩
    rw [List.eq_nil_iff_forall_not_mem]
    intro i hi
    simp only [Region.ready, List.mem_filter, List.mem_range, Bool.and_eq_true, Bool.not_eq_true'] at hi
    obtain ⟨x, hx, _⟩ := hall i hi.1 hi.2.1
    simp at hx
  | succ n ih =>
    intro listed l fr H ρ w a hsz hl hp hin hall hcl hv hR hF hq
    refine ⟨?_, ?_⟩
    · intro hnil
      exfalso
      match l, hl with
      | (i, fl) :: l, hl =>
        obtain ⟨h1, h2⟩ := hin (i, fl) (by simp)
        have hi : i ∈ Region.ready .any ops listed := by
          simp only [Region.ready, List.mem_filter, List.mem_range, Bool.and_eq_true, Bool.not_eq_true']
          refine ⟨h1, h2, ?_⟩
          rw [Array.getElem?_eq_getElem h1]
          simp only [Option.map_some, Option.getD_some, Array.all_eq_true']
          intro e he
          rw [Bool.or_eq_true, Bool.not_eq_true']
          by_cases hb : Region.binds .any e = true
          · right
            have hedge' := List.all_eq_true.1 hedge i (by simpa using h1)
            simp only [Array.getElem?_eq_getElem h1, List.all_eq_true] at hedge'
            have he' := hedge' e (by simpa using he)
            simp only [hb, Bool.not_true, Bool.false_or, Bool.and_eq_true, decide_eq_true_eq, bne_iff_ne, ne_eq] at he'
            rw [← getD2 listed e.on hsz he'.1]
            cases hg : listed.getD e.on true with
            | true => rfl
            | false =>
              obtain ⟨x, hx, hxe⟩ := hall e.on he'.1 hg
              rcases List.mem_cons.1 hx with rfl | hx
              · exact absurd hxe.symm he'.2
              · have hpo := (pairsOKF_spec (l1 := []) hp).2.1 x hx
                have hx1 := (hin x (by simp [hx])).1
                simp only [pairOKF, Array.getElem?_eq_getElem h1, Array.getElem?_eq_getElem hx1, Bool.and_eq_true, Bool.not_eq_true'] at hpo
                have hd := hpo.1.1
                simp only [directTo, List.any_eq_false, Bool.and_eq_true, beq_iff_eq, not_and] at hd
                exact absurd hxe.symm (hd e (by simpa using he) hb)
          · left; simpa using hb
        rw [hnil] at hi
        simp at hi
    · intro i hi
      simp only [Region.ready, List.mem_filter, List.mem_range, Bool.and_eq_true, Bool.not_eq_true'] at hi
      obtain ⟨hilt, hnl, hrdy⟩ := hi
      rw [Array.getElem?_eq_getElem hilt] at hrdy
      simp only [Option.map_some, Option.getD_some, Array.all_eq_true'] at hrdy
      have ho : ops[i]? = some ops[i] := Array.getElem?_eq_getElem hilt
      obtain ⟨x, hx, hxi⟩ := hall i hilt hnl
      obtain ⟨l1, l2, rfl⟩ := List.append_of_mem hx
      obtain ⟨i', fl⟩ := x
      simp only at hxi
      subst hxi
      obtain ⟨hp1, hp2, hp3⟩ := pairsOKF_spec hp
      have hpre : ∀ e ∈ (ops[i']).after.toList, Region.binds .any e = true → listed.getD e.on false = true := by
        intro e he hb
        have := hrdy e (by simpa using he)
        simpa [hb] using this
      have hdep : ∀ y ∈ l1, ¬ ((masksGo ops.toList []).getD i' 0).testBit y.1 = true := by
        intro y hy hb
        have := masks_sound (ops := ops) (fun j => listed.getD j false = true) hcl ops.toList [] (fun j _ => by simp) (fun j o p hj => by simp at hj) i' _ y.1 ho hb hpre
        obtain ⟨hy1, hy2⟩ := hin y (by simp [hy])
        rw [getD2 listed y.1 hsz hy1] at hy2
        rw [hy2] at this; cases this
      have hR1 : ∀ y ∈ l1, ∀ p, ops[y.1]? = some p → isR p.op = true → indep ops p ops[i'] = true ∧ (readsH p.op = true → isR (ops[i']).op = true ∨ fl = true) := by
        intro y hy p hp' hRp
        have hy1 := (hin y (by simp [hy])).1
        have hpo := hp1 y hy
        have hd := hdep y hy
        simp only [pairOKF, hp', ho, Bool.and_eq_true] at hpo
        have hpo2 := hpo.2
        simp only [Bool.not_eq_true] at hd
        simp only [hRp, hd, Bool.false_or, Bool.or_false, Bool.and_eq_true, Bool.or_eq_true, Bool.not_eq_true'] at hpo2
        refine ⟨hpo2.1, fun hr => ?_⟩
        rcases hpo2.2 with (h | h) | h
        · exact .inl h
        · exact .inr h
        · rw [hr] at h; cases h
      have hE1 : ∀ y ∈ l1, ∀ p, ops[y.1]? = some p → isR p.op = false → i' ∈ fs ∧ fl = true ∧ isR (ops[i']).op = false := by
        intro y hy p hp' hRp
        have hpo := hp1 y hy
        have hd := hdep y hy
        simp only [pairOKF, hp', ho, Bool.and_eq_true] at hpo
        have hpo2 := hpo.2
        simp only [Bool.not_eq_true] at hd
        simp only [hRp, hd, Bool.false_or, Bool.and_eq_true, Bool.not_eq_true', List.contains_iff_mem] at hpo2
        exact ⟨hpo2.1.1, hpo2.1.2, hpo2.2⟩
      have hnd : ∀ y ∈ l1 ++ l2, y.1 ≠ i' := by
        intro y hy e
        rcases List.mem_append.1 hy with hy | hy
        · have hpo := hp1 y hy
          have hy1 := (hin y (by simp [hy])).1
          simp [pairOKF, Array.getElem?_eq_getElem hy1, ho, e] at hpo
        · have hpo := hp2 y hy
          have hy1 := (hin y (by simp [hy])).1
          simp [pairOKF, Array.getElem?_eq_getElem hy1, ho, e] at hpo
      have hstep : vstep P N ops ops[i'] (fun f h => relX L ops[i'] fl H h ∧ vFX P N ops L fs K n (l1 ++ l2) f h) fr H := by
        simp only [List.length_append, List.length_cons] at hl
        rcases first_effect (ops := ops) l1 (fun x hx => ⟨_, Array.getElem?_eq_getElem (hin x (by simp [hx])).1⟩) with hall1 | ⟨r1, e, oe, r2, rfl, he1, he2, he3⟩
        · rw [show n = l1.length + l2.length by omega]
          rw [show n + 1 = l1.length + (l2.length + 1) by omega] at hv
          exact vFX_front hK ho (fun x hx => by obtain ⟨p, h1, h2⟩ := hall1 x hx; obtain ⟨h3, h4⟩ := hR1 x hx p h1 h2; exact ⟨p, h1, h2, h3, h4⟩) hv
        · obtain ⟨hif, hfl, hEi⟩ := hE1 e (by simp) oe he1 he2
          subst hfl
          simp only [List.length_append, List.length_cons] at hl
          rw [show n + 1 = r1.length + ((r2.length + 1 + l2.length) + 1) by omega, List.append_assoc, List.cons_append] at hv
          have hfilt : (r2 ++ (i', true) :: l2).filter (fun y => y.1 != i') = r2 ++ l2 := by
            rw [List.filter_append, List.filter_cons]
            simp only [bne_self_eq_false, Bool.false_eq_true, if_false]
            rw [List.filter_eq_self.2, List.filter_eq_self.2]
            · intro y hy; simpa using hnd y (by simp [hy])
            · intro y hy; simpa using hnd y (by simp [hy])
          have := vFX_float (f := i') hK he1 he2 ho hif (by simp) (fun x hx => by
            obtain ⟨p, h1, h2⟩ := he3 x hx
            exact ⟨p, h1, h2, (hR1 x (by simp [hx]) p h1 h2).1⟩) hv
          rw [hfilt] at this
          rw [show n = r1.length + (r2.length + 1 + l2.length) by omega, List.append_assoc, List.cons_append]
          exact this
      unfold wpOp
      rw [ho]
      refine vstep_sound hstep hR hF Q ?_
      rintro ρ' fr' H' a' w' hpre' ⟨_, hv'⟩ hR' hF'
      refine ih (listed.setIfInBounds i' true) (l1 ++ l2) fr' H' ρ' w' a' (by simpa using hsz) (by simp at hl ⊢; omega) hp3 ?_ ?_ ?_ hv' hR' hF' (fun ρ'' f'' H'' a'' w'' h1 => hq ρ'' f'' H'' a'' w'' (hpre'.trans h1))
      · intro y hy
        have hne := hnd y hy
        obtain ⟨h1, h2⟩ := hin y (by rcases List.mem_append.1 hy with hy | hy <;> simp [hy])
        exact ⟨h1, by rw [getD_set_ne _ (fun e => hne e.symm)]; exact h2⟩
      · intro j hj hnj
        by_cases e : i' = j
        · subst e
          exfalso
          have : (listed.setIfInBounds i' true).getD i' true = true := by simp [Array.getD_eq_getD_getElem?]
          rw [this] at hnj; cases hnj
        · rw [getD_set_ne _ e] at hnj
          obtain ⟨y, hy, rfl⟩ := hall j hj hnj
          refine ⟨y, ?_, rfl⟩
          rcases List.mem_append.1 hy with hy | hy
          · simp [hy]
          · rcases List.mem_cons.1 hy with rfl | hy
            · exact absurd rfl e
            · simp [hy]
      · intro j o hj hlj e he hb
        by_cases e' : i' = j
        · subst e'
          rw [ho] at hj; cases hj
          exact getD_set_true (hpre e he hb)
        · rw [getD_set_ne _ e'] at hlj
          exact getD_set_true (hcl j o hj hlj e he hb)

def vTX (P : Program) (N : Nat) (ops : Array Oper) (L : Nat) (K : Fr → Heap → Prop) : Tree → Fr → Heap → Prop
  | .nil, fr, H => K fr H
  | .one i fl t, fr, H => match ops[i]? with
    | none => False
    | some o => match isR o.op with
      | true => offL L o.op fr ∧ vstep P N ops o (vTX P N ops L K t) fr H
      | false => vstep P N ops o (eKX L fl H (vTX P N ops L K t)) fr H
  | .two i fl t f t', fr, H => match ops[i]?, ops[f]? with
    | some o, some o' => vstep P N ops o (eKX L fl H (vTX P N ops L K t)) fr H ∧ vstep P N ops o' (eKX L true H (vTX P N ops L K t')) fr H
    | _, _ => False
theorem vTX_vFX : ∀ (t : Tree) (n : Nat) (l : List (Nat × Bool)) (fr : Fr) (H : Heap), l.length ≤ n → (∀ x y, x ∈ l → y ∈ l → x.1 = y.1 → x = y) → treeOK ops fs t l = true → vTX P N ops L K t fr H → vFX P N ops L fs K n l fr H := by
  intro t
  induction t with
  | nil =>
    intro n l fr H hn _ hok h
    cases l with
    | nil => cases n <;> exact h
    | cons x l => simp [treeOK] at hok
  | one i fl t ih =>
    intro n l fr H hn hu hok h
    cases l with
    | nil => simp [treeOK] at hok
    | cons x l =>
      obtain ⟨j, fl'⟩ := x
      simp only [treeOK, Bool.and_eq_true, beq_iff_eq] at hok
      obtain ⟨⟨⟨rfl, rfl⟩, hfl⟩, hok⟩ := hok
      cases n with
      | zero => simp at hn
      | succ n =>
        simp only [List.length_cons] at hn
        have hu' : ∀ x y, x ∈ l → y ∈ l → x.1 = y.1 → x = y := fun x y hx hy => hu x y (by simp [hx]) (by simp [hy])
        simp only [vTX] at h
        simp only [vFX]
        cases ho : ops[i]? with
        | none => simp [ho] at h
        | some o =>
          simp only [ho] at h hfl ⊢
          cases hR : isR o.op with
          | true => simp only [hR] at h ⊢; exact ⟨h.1, vstep_weak h.2 fun f h => ih n l f h (by omega) hu' hok⟩
          | false =>
            simp only [hR, Bool.false_or, List.all_eq_true] at h hfl ⊢
            refine ⟨vstep_weak h fun f h' hk => ?_, fun f hf hm => ?_⟩
            · cases fl with
              | true => exact ⟨hk.1, ih n l f h' (by omega) hu' hok hk.2⟩
              | false => exact ih n l f h' (by omega) hu' hok hk
            · have := hfl f hf
              simp only [Bool.not_eq_true', List.contains_eq_mem, decide_eq_false_iff_not] at this
              exact absurd hm this
  | two i fl t f t' ih ih' =>
    intro n l fr H hn hu hok h
    cases l with
    | nil => simp [treeOK] at hok
    | cons x l =>
      obtain ⟨j, fl'⟩ := x
      simp only [treeOK, Bool.and_eq_true, beq_iff_eq] at hok
      obtain ⟨⟨⟨⟨⟨rfl, rfl⟩, hE⟩, hfl⟩, hok⟩, hok'⟩ := hok
      cases n with
      | zero => simp at hn
      | succ n =>
        simp only [List.length_cons] at hn
        have hu' : ∀ x y, x ∈ l → y ∈ l → x.1 = y.1 → x = y := fun x y hx hy => hu x y (by simp [hx]) (by simp [hy])
        simp only [vTX] at h
        simp only [vFX]
        cases ho : ops[i]? with
        | none => simp [ho] at h
        | some o =>
          cases ho' : ops[f]? with
          | none => simp [ho, ho'] at h
          | some o' =>
            simp only [ho, ho', Bool.and_eq_true, Bool.not_eq_true'] at h hE ⊢
            simp only [hE.1]
            refine ⟨vstep_weak h.1 fun g h' hk => ?_, fun g hg hm => ?_⟩
            · cases fl with
              | true => exact ⟨hk.1, ih n l g h' (by omega) hu' hok hk.2⟩
              | false => exact ih n l g h' (by omega) hu' hok hk
            · rw [List.all_eq_true] at hfl
              have hgf := hfl g hg
              simp only [Bool.or_eq_true, beq_iff_eq, Bool.not_eq_true', List.contains_eq_mem, decide_eq_false_iff_not] at hgf
              have : g = f := hgf.resolve_right (fun e => e hm)
              subst this
              refine ⟨o', ho', hE.2, vstep_weak h.2 fun q h' hk => ⟨hk.1, ih' n _ q h' ?_ ?_ hok' hk.2⟩⟩
              · obtain ⟨z, hz, hzg⟩ := List.mem_map.1 hm
                have : (l.filter fun y => y.1 != g).length < l.length := by
                  rw [List.length_filter_lt_length_iff_exists]
                  exact ⟨z, hz, by simp [hzg]⟩
                simp only [List.length_cons]; omega
              · intro x y hx hy
                refine hu x y ?_ ?_
                · rcases List.mem_cons.1 hx with rfl | hx
                  · simp
                  · exact List.mem_cons_of_mem _ (List.mem_filter.1 hx).1
                · rcases List.mem_cons.1 hy with rfl | hy
                  · simp
                  · exact List.mem_cons_of_mem _ (List.mem_filter.1 hy).1

theorem AWp.drawFX (L : Nat) {id : Nat} {fr : Fr} {H : Heap} {Q : Exit → Fr → Heap → Prop} (hm : P.follows .mixedOrders = true) (fs : List Nat) (canon : List (Nat × Bool)) (t : Tree) (hok : (drawOKF ops fs canon && treeOK ops fs t canon) = true) (h : vTX P N ops L (Q .normal) t fr H) : AWp P N (.region id ops true) Q fr H := by
  intro B w0 ρ w a hR hF
  simp only [drawOKF, Bool.and_eq_true, decide_eq_true_eq, List.all_eq_true, List.mem_range, List.contains_iff_mem, List.mem_map] at hok
  obtain ⟨⟨⟨⟨⟨h1, h2⟩, h3⟩, h4⟩, h5⟩, h6⟩ := hok
  refine wp_region_any hm ?_
  let K : Fr → Heap → Prop := fun f h => ∃ g, feq g f ∧ Q .normal g h
  have hK : Closed K := fun f g h hfg ⟨k, hk, hq⟩ => ⟨k, hk.trans hfg, hq⟩
  have hu : ∀ x y, x ∈ canon → y ∈ canon → x.1 = y.1 → x = y := by
    intro x y hx hy e
    obtain ⟨l1, l2, rfl⟩ := List.append_of_mem hx
    obtain ⟨hp1, hp2, _⟩ := pairsOKF_spec h1
    rcases List.mem_append.1 hy with hy | hy
    · have := hp1 y hy
      unfold pairOKF at this
      split at this
      · simp [e] at this
      · cases this
    · rcases List.mem_cons.1 hy with rfl | hy
      · rfl
      · have := hp2 y hy
        unfold pairOKF at this
        split at this
        · simp [e] at this
        · cases this
  have hv : vFX P N ops L fs K ops.size canon fr H := by
    refine vTX_vFX t ops.size canon fr H (by omega) hu h6 ?_
    have weak : ∀ (t : Tree) (fr : Fr) (H : Heap), vTX P N ops L (Q .normal) t fr H → vTX P N ops L K t fr H := by
      intro t
      induction t with
      | nil => exact fun fr H h => ⟨fr, feq.rfl' _, h⟩
      | one i fl t ih =>
        intro fr H h
        simp only [vTX] at h ⊢
        split at h
        · exact h
        · rename_i o ho
          cases hR : isR o.op with
          | true => simp only [hR] at h ⊢; exact ⟨h.1, vstep_weak h.2 ih⟩
          | false =>
            simp only [hR] at h ⊢
            refine vstep_weak h ?_
            intro f h' hk
            cases fl with
            | true => exact ⟨hk.1, ih _ _ hk.2⟩
            | false => exact ih _ _ hk
      | two i fl t f t' ih ih' =>
        intro fr H h
        simp only [vTX] at h ⊢
        split at h
        · rename_i o o' ho ho'
          refine ⟨vstep_weak h.1 ?_, vstep_weak h.2 fun f h' hk => ⟨hk.1, ih' _ _ hk.2⟩⟩
          intro f h' hk
          cases fl with
          | true => exact ⟨hk.1, ih _ _ hk.2⟩
          | false => exact ih _ _ hk
        · exact h
    exact weak t fr H h
  have hgt : ∀ i, i < ops.size → (Array.replicate ops.size false).getD i true = false := by
    intro i hi
    simp [Array.getD_eq_getD_getElem?, hi]
  refine drawFX_any (B := B) (w0 := w0) hK h2 ops.size (Array.replicate ops.size false) canon fr H ρ w.drew a (by simp) h3 h1 ?_ ?_ ?_ hv hR.drew hF ?_
  · intro x hx
    exact ⟨h4 x hx, hgt x.1 (h4 x hx)⟩
  · intro i hi _
    obtain ⟨x, hx, rfl⟩ := h5 i hi
    exact ⟨x, hx, rfl⟩
  · intro j o hj hl
    rw [Array.getD_eq_getD_getElem?, Array.getElem?_replicate] at hl
    split at hl <;> simp at hl
  · rintro ρ' fr' H' a' w' hp ⟨g, hg, hq⟩ hR' hF'
    exact ⟨ρ', g, H', hp, hR', hF'.feq hg.symm, hq⟩

/-! The words of such a tree, for simp. -/

def vTXK (P : Program) (N : Nat) (ops : Array Oper) (L : Nat) (K : Fr → Heap → Prop) (t : Tree) (fr : Fr) (H : Heap) : Prop := vTX P N ops L K t fr H
def eTXK (P : Program) (N : Nat) (ops : Array Oper) (L : Nat) (K : Fr → Heap → Prop) (t : Tree) (fl : Bool) (H : Heap) (fr : Fr) (H' : Heap) : Prop :=
  match fl with
  | true => andK (KeepL L H H') (vTX P N ops L K t fr H')
  | false => vTX P N ops L K t fr H'
def vTXo (P : Program) (N : Nat) (ops : Array Oper) (L : Nat) (K : Fr → Heap → Prop) (t : Tree) (fl : Bool) (fr : Fr) (H : Heap) (o : Oper) : Prop :=
  match isR o.op with
  | true => andK (offB L o.op fr) (vstep P N ops o (vTXK P N ops L K t) fr H)
  | false => vstep P N ops o (eTXK P N ops L K t fl H) fr H
def vTXe (P : Program) (N : Nat) (ops : Array Oper) (L : Nat) (K : Fr → Heap → Prop) (t : Tree) (fl : Bool) (fr : Fr) (H : Heap) (o : Oper) : Prop := vstep P N ops o (eTXK P N ops L K t fl H) fr H

theorem vTX_nil (K : Fr → Heap → Prop) (fr : Fr) (H : Heap) : vTX P N ops L K .nil fr H = K fr H := rfl
theorem eTXK_eq (K : Fr → Heap → Prop) (t : Tree) (fl : Bool) (H : Heap) : eKX L fl H (vTX P N ops L K t) = eTXK P N ops L K t fl H := by
  funext f h
  cases fl <;> rfl
theorem vTX_one (K : Fr → Heap → Prop) (i : Nat) (fl : Bool) (t : Tree) (fr : Fr) (H : Heap) : vTX P N ops L K (.one i fl t) fr H = bindO ops[i]? (vTXo P N ops L K t fl fr H) := by
  simp only [vTX]
  cases ops[i]? with
  | none => simp [bindO]
  | some o =>
    simp only [bindO_some, vTXo]
    cases isR o.op with
    | true => rw [offB_iff]; rfl
    | false => simp only [eTXK_eq]
theorem vTX_two {i : Nat} {fl : Bool} {t : Tree} {f : Nat} {t' : Tree} {K : Fr → Heap → Prop} {fr : Fr} {H : Heap} (h1 : bindO ops[i]? (vTXe P N ops L K t fl fr H)) (h2 : bindO ops[f]? (vTXe P N ops L K t' true fr H)) : vTX P N ops L K (.two i fl t f t') fr H := by
  simp only [vTX]
  cases ho : ops[i]? with
  | none => simp [ho, bindO] at h1
  | some o =>
    cases ho' : ops[f]? with
    | none => simp [ho', bindO] at h2
    | some o' =>
      simp only [ho, ho', bindO_some, vTXe] at h1 h2 ⊢
      exact ⟨by rw [eTXK_eq]; exact h1, by rw [eTXK_eq]; exact h2⟩

attribute [go_sem] vTXK eTXK vTXo vTXe vTX_nil vTX_one

end
end Go.Ab
end

section
/- The first part of a trade: impl.partOf, by recursion. -/
set_option linter.all false
set_option maxRecDepth 20000
set_option maxHeartbeats 8000000
namespace Go.Proofs.Ytdfeoccjllljiaa
open Go.Ab Go.Sort

theorem oe_lower {e L L' : Nat} {H : Heap} {v : Value} {cs : List Value} {n : Nat} (h : OE e L H v cs n) (hL : L' ≤ L) : OE e L' H v cs n := by
  refine ⟨h.1, ?_⟩
  rcases h.2 with h | ⟨id, h1, h2, h3, h4⟩ | ⟨id, h1, h2, h3⟩
  · exact .inl h
  · exact .inr (.inl ⟨id, h1, by omega, h3, h4⟩)
  · exact .inr (.inr ⟨id, by omega, h2, h3⟩)

theorem partOf_ok : ∀ (k : Nat) {H : Heap} {u w v : Value} {rest ins now : List Bk} (hu : BlocksAt H u rest) (hw : BlocksAt H w ins) (hv : BlocksAt H v now) (hg : ∀ x ∈ now ++ rest, good 15 x = true) (hF : Fits (now ++ rest)) (hgi : ∀ x ∈ ins, good 15 x = true)
    (hl : ins.length ≤ 1048576) (hlr : now.length + rest.length ≤ 1048576) (hk : k ≤ 1000) (Post : Value → Heap → Prop)
    (hs : ∀ H' a b s, H <+: H' → findP ins k rest now = some s → BlocksAt H' a s → BlocksAt H' b (innerB ins s) → Post (.tuple #[a, b, .bool true]) H')
    (hn : ∀ H' a b, H <+: H' → findP ins k rest now = none → Post (.tuple #[a, b, .bool false]) H'),
    ACalls Try.prog 138 [u, w, v, .int .i64 (k : Nat)] H Post
  | 0, H, u, w, v, rest, ins, now, hu, hw, hv, hg, hF, hgi, hl, hlr, hk, Post, hs, hn => by
    refine acalls_vc (rs := [.tmp 8, .tmp 9, .tmp 10]) Try.func138 rfl rfl Try.ntmps138 rfl rfl ?_
    simp (maxSteps := 1000000) [go_sem]
    refine partner_ok hv hw (fun x hx => hg x (List.mem_append_left _ hx)) (Fits.sub hF (List.sublist_append_left _ _)) hgi hl (by omega) _ ?_
    intro H1 b hp1 hb
    have e : findP ins 0 rest now = if okS ins now then some now else none := by unfold findP subs; simp only [List.find?]; cases okS ins now <;> rfl
    cases ho : okS ins now with
    | true =>
      rw [show decide ((innerB ins now).length = now.length) = true from ho]
      simp (maxSteps := 1000000) [go_sem]
      exact hs H1 v b now hp1 (by rw [e, ho]; rfl) (hv.pre hp1) hb.read
    | false =>
      rw [show decide ((innerB ins now).length = now.length) = false from ho]
      simp (maxSteps := 1000000) [go_sem]
      exact hn H1 v b hp1 (by rw [e, ho]; rfl)
  | k + 1, H, u, w, v, rest, ins, now, hu, hw, hv, hg, hF, hgi, hl, hlr, hk, Post, hs, hn => by
    obtain ⟨i, o, rfl, h1, h2⟩ := hu
    refine acalls_vc (rs := [.tmp 8, .tmp 9, .tmp 10]) Try.func138 rfl rfl Try.ntmps138 rfl rfl ?_
    have w1 : IntKind.i64.wrap ((rest.length : Int) - ((k : Int) + 1)) = (rest.length : Int) - ((k : Int) + 1) := i64w (by omega) (by omega)
    obtain ⟨n, hnn⟩ : ∃ n, n = rest.length - k := ⟨_, rfl⟩
    have hn1 : n ≤ rest.length := by omega
    have hn1' : (n : Int) ≤ rest.length := by omega
    have hif : (if IntKind.i64.wrap ((rest.length : Int) - (k : Int)) < 0 then 0 else IntKind.i64.wrap ((rest.length : Int) - (k : Int))) = (n : Int) := by
      rw [i64w (by omega) (by omega)]; split <;> omega
    have hm2 : (rest.length : Int) - ((k : Int) + 1) + 1 = (rest.length : Int) - k := by omega
    have hk1 : ¬ ((k : Int) + 1 = 0) := by omega
    have hk2 : (((k : Int) + 1) == 0) = false := by simpa using hk1
    simp (maxSteps := 1000000) [go_sem, undef, hk1, hk2, w1, hm2, hif, hn1, hn1', sliceV, boundV, lenV]
    have hfind : findP ins (k + 1) rest now = ((List.range n).flatMap fun i => subs k (rest.drop (i + 1)) (now ++ (rest[i]?).toList)).find? (okS ins) := by rw [hnn]; rfl
    refine AWp.loopVc (St := Nat) (fun s => [(0, lv 3 i o rest.length), (1, w), (2, v), (3, .int .i64 ((k : Int) + 1)), (36, .int .i64 n), (37, .int .i64 s)])
      (fun s H' => s ≤ n ∧ H <+: H' ∧ ∀ j, j < s → (subs k (rest.drop (j + 1)) (now ++ (rest[j]?).toList)).find? (okS ins) = none) (fun s => n - s) 0 ?_ ?_ ?_
    · simp [upF, Fr.get, Up.refl]
    · exact ⟨by omega, List.prefix_refl _, fun j hj => by omega⟩
    · rintro K s H' ⟨hsn, hp, hbef⟩ hK
      by_cases hlt : s < n
      · have hw_s : IntKind.i64.wrap ((s : Int) + 1) = (s : Int) + 1 := i64w (by omega) (by omega)
        have hlt' : (s : Int) < n := by omega
        have hsl : s < rest.length := by omega
        have hsl' : (s : Int) < rest.length := by omega
        have hs1 : s + 1 ≤ rest.length := by omega
        have hs1' : (s : Int) + 1 ≤ rest.length := by omega
        have wk : IntKind.i64.wrap (k : Int) = (k : Int) := i64w (by omega) (by omega)
        have hres : rest[s]? = some rest[s] := List.getElem?_eq_getElem hsl
        have ih := @partOf_ok k
        have c1 := (h1.pre hp).bk hres
        have hiH : i < H'.length := by
          rcases h1 with e | e
          · have := tri_length rest; rw [e] at this; simp at this; omega
          · obtain ⟨blk, hb, _⟩ := cellsAt_inv e
            have := (List.getElem?_eq_some_iff.1 hb).1
            have := hp.length_le
            omega
        have hsubl : (now ++ [rest[s]] ++ rest.drop (s + 1)).Sublist (now ++ rest) := by
          rw [List.append_assoc]
          refine List.Sublist.append (List.Sublist.refl _) ?_
          have e : rest.drop s = rest[s] :: rest.drop (s + 1) := List.drop_eq_getElem_cons hsl
          show (rest[s] :: rest.drop (s + 1)).Sublist rest
          rw [← e]; exact List.drop_sublist s rest
        have hmem : rest[s] ∈ rest := List.getElem_mem hsl
        have hdrop : rest.drop s = rest[s] :: rest.drop (s + 1) := List.drop_eq_getElem_cons hsl
        have esub : (subs k (rest.drop (s + 1)) (now ++ (rest[s]?).toList)) = subs k (rest.drop (s + 1)) (now ++ [rest[s]]) := by rw [hres]; rfl
        generalize rest[s] = b at *
        simp only [Bk.cells] at c1
        simp (maxSteps := 1000000) [go_sem, hlt, hlt']
        refine AWp.drawFX (H'.length) mixed [11] [(0, false), (1, false), (2, false), (3, false), (4, false), (5, false), (7, false), (8, false), (9, false), (10, false), (13, false), (14, false), (6, true), (11, true), (12, true), (15, false), (16, false), (17, false), (18, false), (19, false), (20, false), (21, false), (22, false)] (.one 0 false (.one 1 false (.one 2 false (.one 3 false (.one 4 false (.one 5 false (.one 7 false (.one 8 false (.one 9 false (.one 10 false (.one 13 false (.one 14 false (.two 6 true (.one 11 true (.one 12 true (.one 15 false (.one 16 false (.one 17 false (.one 18 false (.one 19 false (.one 20 false (.one 21 false (.one 22 false .nil)))))))))) 11 (.one 6 true (.one 12 true (.one 15 false (.one 16 false (.one 17 false (.one 18 false (.one 19 false (.one 20 false (.one 21 false (.one 22 false .nil))))))))))))))))))))))) (by kernel_rfl) ?_
        simp (maxSteps := 1000000) [go_sem, undef, hlt, hlt', hw_s, hs1, hs1', hsl, hsl', c1, wk, sliceV, boundV, lenV]
        refine andK_intro hiH (andK_intro (by omega) (andK_intro hiH ?_))
        refine vTX_two ?_ ?_
        · simp (maxSteps := 1000000) [go_sem, undef, hlt, hlt', hw_s, hs1, hs1', hsl, hsl', c1, wk, sliceV, boundV, lenV]
          refine cloneB_oe (hv.pre hp) (by omega) _ ?_
          intro H4 v4 hp4 hv4
          have hkA : KeepL H'.length H' H4 := KeepL.of_prefix hp4 (Nat.le_refl _)
          have hp5 : H4 <+: H4 ++ [⟨[.int .i64 b.a, .int .i64 b.b, .int .i64 b.c], true, true⟩] := List.prefix_append _ _
          have hkB : KeepL H'.length H4 (H4 ++ [⟨[.int .i64 b.a, .int .i64 b.b, .int .i64 b.c], true, true⟩]) := KeepL.of_prefix hp5 hp4.length_le
          have hle4 := hp4.length_le
          have hl5 : (H4 ++ [(⟨[.int .i64 b.a, .int .i64 b.b, .int .i64 b.c], true, true⟩ : Blk)]).length = H4.length + 1 := by simp
          have hc : cellsAt (H4 ++ [⟨[.int .i64 b.a, .int .i64 b.b, .int .i64 b.c], true, true⟩]) H4.length 0 3 = some [.int .i64 b.a, .int .i64 b.b, .int .i64 b.c] := by simpa using (Holds.last H4 [.int .i64 b.a, .int .i64 b.b, .int .i64 b.c]).cells (n := 3) (o := 0) (by simp)
          obtain ⟨a4, rfl⟩ := hv4.shape
          replace hv4 := hv4.pre hp5
          obtain ⟨v6, H6, hap, he6, hk6, hl6⟩ := hv4.append (m := 1) (news := [.int .i64 b.a, .int .i64 b.b, .int .i64 b.c]) (by omega) (by omega) rfl
          obtain ⟨a6, rfl⟩ := he6.shape
          have hp6 : H' <+: H6 := KeepL.prefix (hp4.trans hp5) (Nat.le_refl _) hk6 (by omega)
          have hk6' : KeepL H'.length (H4 ++ [⟨[.int .i64 b.a, .int .i64 b.b, .int .i64 b.c], true, true⟩]) H6 := hk6
          have et : tri now ++ [.int .i64 b.a, .int .i64 b.b, .int .i64 b.c] = tri (now ++ [b]) := by rw [tri_append]; rfl
          rw [et] at he6
          obtain ⟨w6, hup6, hw6⟩ := (show OE 3 _ H6 _ (tri (now ++ [b])) (now ++ [b]).length by rw [List.length_append]; exact he6).blocks (by simp; omega)
          simp (maxSteps := 1000000) [go_sem, undef, hlt, hlt', hw_s, hs1, hs1', hsl, hsl', c1, wk, sliceV, boundV, lenV, hkA, hkB, hc, hap, hk6']
          refine andK_intro (by omega) ?_
          have hpp := hp.trans hp6
          refine ACalls.up (args' := [lv 3 i (o + (s + 1) * 3) (rest.length - (s + 1)), w, w6, .int .i64 (k : Nat)]) ⟨Up.refl _ _, Up.refl _ _, hup6, Up.refl _ _, trivial⟩ ?_
          refine ih (rest := rest.drop (s + 1)) (ins := ins) (now := now ++ [b]) ⟨i, o + (s + 1) * 3, by rw [List.length_drop], (h1.drop_tri (s + 1) hs1).pre hpp, by rw [List.length_drop]; omega⟩ (hw.pre hpp) hw6.read (fun x hx => hg x (hsubl.subset hx)) (Fits.sub hF hsubl) hgi hl (by rw [List.length_append, List.length_drop]; simp; omega) (by omega) _ ?_ ?_
          · intro H7 a b' s' hp7 hf ha hb'
            have hk7 : KeepL H'.length H6 H7 := KeepL.of_prefix hp7 (by have := hp6.length_le; omega)
            have ff : findP ins (k + 1) rest now = some s' := by rw [hfind]; exact find_some hbef (by rw [esub]; exact hf) hlt
            simp (maxSteps := 1000000) [go_sem, undef, hk7]
            exact hs H7 a b' s' (hpp.trans hp7) ff ha hb'
          · intro H7 a b' hp7 hf
            have hk7 : KeepL H'.length H6 H7 := KeepL.of_prefix hp7 (by have := hp6.length_le; omega)
            simp (maxSteps := 1000000) [go_sem, undef, hk7, hw_s]
            refine hK (s + 1) _ _ (by omega) (by simp [upF, Fr.get, Up.refl]) ⟨by omega, hpp.trans hp7, fun j hj => ?_⟩
            by_cases hjs : j = s
            · subst hjs; rw [esub]; exact hf
            · exact hbef j (by omega)
        · have hp5 : H' <+: H' ++ [⟨[.int .i64 b.a, .int .i64 b.b, .int .i64 b.c], true, true⟩] := List.prefix_append _ _
          have hkA : KeepL H'.length H' (H' ++ [⟨[.int .i64 b.a, .int .i64 b.b, .int .i64 b.c], true, true⟩]) := KeepL.of_prefix hp5 (Nat.le_refl _)
          have hnw := Holds.last H' [.int .i64 b.a, .int .i64 b.b, .int .i64 b.c]
          have hl5 : (H' ++ [(⟨[.int .i64 b.a, .int .i64 b.b, .int .i64 b.c], true, true⟩ : Blk)]).length = H'.length + 1 := by simp
          simp (maxSteps := 1000000) [go_sem, undef, hlt, hlt', hw_s, hs1, hs1', hsl, hsl', c1, wk, sliceV, boundV, lenV, hkA]
          generalize H' ++ [(⟨[.int .i64 b.a, .int .i64 b.b, .int .i64 b.c], true, true⟩ : Blk)] = HB at *
          refine cloneB_oe (hv.pre (hp.trans hp5)) (by omega) _ ?_
          intro H4 v4 hp4 hv4
          have hkB : KeepL H'.length HB H4 := KeepL.of_prefix hp4 (by omega)
          have hle4 := hp4.length_le
          have hc : cellsAt H4 H'.length 0 3 = some [.int .i64 b.a, .int .i64 b.b, .int .i64 b.c] := by simpa using (hnw.pre hp4).cells (n := 3) (o := 0) (by simp)
          obtain ⟨a4, rfl⟩ := hv4.shape
          replace hv4 := oe_lower (L' := H'.length) hv4 (by omega)
          obtain ⟨v6, H6, hap, he6, hk6, hl6⟩ := hv4.append (m := 1) (news := [.int .i64 b.a, .int .i64 b.b, .int .i64 b.c]) (by omega) (by omega) rfl
          obtain ⟨a6, rfl⟩ := he6.shape
          have hp6 : H' <+: H6 := KeepL.prefix (hp5.trans hp4) (Nat.le_refl _) hk6 (by omega)
          have hk6' : KeepL H'.length H4 H6 := hk6
          have et : tri now ++ [.int .i64 b.a, .int .i64 b.b, .int .i64 b.c] = tri (now ++ [b]) := by rw [tri_append]; rfl
          rw [et] at he6
          obtain ⟨w6, hup6, hw6⟩ := (show OE 3 _ H6 _ (tri (now ++ [b])) (now ++ [b]).length by rw [List.length_append]; exact he6).blocks (by simp; omega)
          simp (maxSteps := 1000000) [go_sem, undef, hlt, hlt', hw_s, hs1, hs1', hsl, hsl', c1, wk, sliceV, boundV, lenV, hkA, hkB, hc, hap, hk6']
          refine andK_intro (by omega) ?_
          have hpp := hp.trans hp6
          refine ACalls.up (args' := [lv 3 i (o + (s + 1) * 3) (rest.length - (s + 1)), w, w6, .int .i64 (k : Nat)]) ⟨Up.refl _ _, Up.refl _ _, hup6, Up.refl _ _, trivial⟩ ?_
          refine ih (rest := rest.drop (s + 1)) (ins := ins) (now := now ++ [b]) ⟨i, o + (s + 1) * 3, by rw [List.length_drop], (h1.drop_tri (s + 1) hs1).pre hpp, by rw [List.length_drop]; omega⟩ (hw.pre hpp) hw6.read (fun x hx => hg x (hsubl.subset hx)) (Fits.sub hF hsubl) hgi hl (by rw [List.length_append, List.length_drop]; simp; omega) (by omega) _ ?_ ?_
          · intro H7 a b' s' hp7 hf ha hb'
            have hk7 : KeepL H'.length H6 H7 := KeepL.of_prefix hp7 (by have := hp6.length_le; omega)
            have ff : findP ins (k + 1) rest now = some s' := by rw [hfind]; exact find_some hbef (by rw [esub]; exact hf) hlt
            simp (maxSteps := 1000000) [go_sem, undef, hk7]
            exact hs H7 a b' s' (hpp.trans hp7) ff ha hb'
          · intro H7 a b' hp7 hf
            have hk7 : KeepL H'.length H6 H7 := KeepL.of_prefix hp7 (by have := hp6.length_le; omega)
            simp (maxSteps := 1000000) [go_sem, undef, hk7, hw_s]
            refine hK (s + 1) _ _ (by omega) (by simp [upF, Fr.get, Up.refl]) ⟨by omega, hpp.trans hp7, fun j hj => ?_⟩
            by_cases hjs : j = s
            · subst hjs; rw [esub]; exact hf
            · exact hbef j (by omega)
      · have : s = n := by omega
        subst this
        have ff : findP ins (k + 1) rest now = none := by rw [hfind]; exact find_none hbef
        simp (maxSteps := 1000000) [go_sem]
        exact hn H' _ _ hp ff

end Go.Proofs.Ytdfeoccjllljiaa
end

section
/- The first part of a trade and IsMinimalTrade: the tested program. -/
set_option linter.all false
set_option maxRecDepth 20000
set_option maxHeartbeats 8000000
namespace Go.Proofs.Ytdfeoccjllljiaa
open Go.Ab Go.Sort

theorem findS_none {α : Type} {F : Nat → Option α} {n : Nat} (h : ∀ i, i < n → F i = none) : (List.range n).findSome? F = none := by
  rw [List.findSome?_eq_none_iff]
  intro i hi
  exact h i (List.mem_range.1 hi)
theorem findS_some {α : Type} {F : Nat → Option α} {x : α} {s : Nat} (h : ∀ i, i < s → F i = none) (hs : F s = some x) : ∀ {n : Nat}, s < n → (List.range n).findSome? F = some x
  | 0, hn => by omega
  | n + 1, hn => by
    rw [List.range_succ, List.findSome?_append]
    by_cases e : s = n
    · subst e
      rw [findS_none h]
      simp [hs]
    · rw [findS_some h hs (n := n) (by omega)]; rfl
/-- The first one of the least parts. -/
def partP (o i : List Bk) : List Bk × List Bk :=
  match (List.range (o.length - 1)).findSome? fun k => findP i (k + 1) o [] with
  | some s => (s, innerB i s)
  | none => (o, i)

theorem firstPart_ok {H : Heap} {u w : Value} {o i : List Bk} (hu : BlocksAt H u o) (hw : BlocksAt H w i) (hg : ∀ x ∈ o, good 15 x = true) (hF : Fits o) (hgi : ∀ x ∈ i, good 15 x = true) (hl : o.length ≤ 12) (hli : i.length ≤ 1048576) (Post : Value → Heap → Prop)
    (h : ∀ H' a b, H <+: H' → BlocksAt H' a (partP o i).1 → BlocksAt H' b (partP o i).2 → Post (.tuple #[a, b]) H') : ACalls Try.prog 75 [u, w] H Post := by
  obtain ⟨j, q, rfl, h1, h2⟩ := hu
  refine acalls_vc (rs := [.tmp 4, .tmp 5]) Try.func75 rfl rfl Try.ntmps75 rfl rfl ?_
  simp (maxSteps := 1000000) [go_sem]
  refine AWp.loopVc (St := Nat) (fun s => [(0, lv 3 j q o.length), (1, w), (6, .int .i64 ((s : Int) + 1))])
    (fun s H' => s ≤ o.length ∧ H <+: H' ∧ ∀ k, k < s → findP i (k + 1) o [] = none) (fun s => o.length - s) 0 ?_ ?_ ?_
  · simp [upF, Fr.get, Up.refl]
  · exact ⟨by omega, List.prefix_refl _, fun k hk => by omega⟩
  · rintro K s H' ⟨hs, hp, hbef⟩ hK
    by_cases hlt : s + 1 < o.length
    · have hlt' : (s : Int) + 1 < o.length := by omega
      have ws : IntKind.i64.wrap ((s : Int) + 1 + 1) = (s : Int) + 1 + 1 := i64w (by omega) (by omega)
      simp (maxSteps := 1000000) [go_sem, hlt, hlt']
      refine ACalls.up (args' := [lv 3 j q o.length, w, lv 3 0 0 0, .int .i64 ((s + 1 : Nat) : Int)]) ⟨Up.refl _ _, Up.refl _ _, Up.nil _ _ _ _, by simpa using Up.refl _ _, trivial⟩ ?_
      refine partOf_ok (s + 1) (rest := o) (ins := i) (now := []) ⟨j, q, rfl, h1.pre hp, h2⟩ (hw.pre hp) ⟨0, 0, rfl, .inl rfl, by simp⟩ (by simpa using hg) (by simpa using hF) hgi hli (by simp; omega) (by omega) _ ?_ ?_
      · intro H2 a b s' hp2 hf ha hb
        have e : partP o i = (s', innerB i s') := by
          unfold partP
          rw [findS_some hbef hf (by omega)]
        have fin := h H2 a b (hp.trans hp2) (by rw [e]; exact ha) (by rw [e]; exact hb)
        simp (maxSteps := 1000000) [go_sem]
        exact fin
      · intro H2 a b hp2 hf
        simp (maxSteps := 1000000) [go_sem, ws]
        refine hK (s + 1) _ _ (by omega) (by simp [upF, Fr.get, Up.refl]) ⟨by omega, hp.trans hp2, fun k hk => ?_⟩
        by_cases hks : k = s
        · subst hks; exact hf
        · exact hbef k (by omega)
    · have hlt' : ¬ ((s : Int) + 1 < o.length) := by omega
      have e : partP o i = (o, i) := by
        unfold partP
        rw [findS_none fun k hk => hbef k (by omega)]
      have fin := h H' (lv 3 j q o.length) w hp (by rw [e]; exact ⟨j, q, rfl, h1.pre hp, h2⟩) (by rw [e]; exact hw.pre hp)
      simp (maxSteps := 1000000) [go_sem, hlt, hlt']
      exact fin

noncomputable def rMin (p : Int) (o i : List Bk) : Bool × Int :=
  if tradeB p o i then (if o.length ≤ 12 then (decide (0 < o.length) && decide ((partP o i).1.length = o.length), 0) else (false, 3)) else (false, 1)

theorem implIsMinimal_ok {H : Heap} {u w : Value} {p : Int} {o i : List Bk} (ht : TradeAt H u w o i) (hl : o.length ≤ 1048576 ∧ i.length ≤ 1048576) (Post : Value → Heap → Prop)
    (h : ∀ H', H <+: H' → Post (.tuple #[.bool (rMin p o i).1, .int .i64 (rMin p o i).2]) H') : ACalls Try.prog 20 [tradeV p u w] H Post := by
  obtain ⟨ou, ow⟩ := ht.one
  refine acalls_vc (rs := [.tmp 2, .tmp 3]) Try.func20 rfl rfl Try.ntmps20 rfl rfl ?_
  simp (maxSteps := 1000000) [go_sem, tradeV, ou, ow]
  have hp0 : H <+: H ++ [⟨[.int .i64 p, u, w], true, true⟩] := List.prefix_append _ _
  have hx0 := Holds.last H [.int .i64 p, u, w]
  generalize H ++ [(⟨[.int .i64 p, u, w], true, true⟩ : Blk)] = H0 at hp0 hx0 ⊢
  refine implIsTrade (ht.1.pre hp0) (ht.2.pre hp0) _ ?_
  intro H1 hp1
  obtain ⟨d0, d1, d2, d3⟩ := (hx0.pre hp1).tr
  cases hs : tradeB p o i with
  | false =>
    have fin := h H1 (hp0.trans hp1)
    simp only [rMin, hs, Bool.false_eq_true, if_false] at fin
    simp (maxSteps := 1000000) [go_sem]
    exact fin
  | true =>
    obtain ⟨hS1, hS2⟩ := tradeB_sys hs
    have hu1 := ht.1.pre (hp0.trans hp1)
    have hw1 := ht.2.pre (hp0.trans hp1)
    obtain ⟨j, q, rfl, h1, h2⟩ := hu1
    by_cases hlen : o.length ≤ 12
    · have hlen' : ¬ ((12 : Int) < o.length) := by omega
      have hlen2 : ¬ (12 < o.length) := by omega
      simp (maxSteps := 1000000) [go_sem, d1, d2, d3, hlen', hlen2]
      refine firstPart_ok ⟨j, q, rfl, h1, h2⟩ hw1 hS1.good15 hS1.2.2.2 hS2.good15 hlen hl.2 _ ?_
      intro H2 a b hp2 ha hb
      obtain ⟨d0, d1, d2, d3⟩ := (hx0.pre (hp1.trans hp2)).tr
      obtain ⟨ja, qa, rfl, _, _⟩ := ha
      have fin := h H2 (hp0.trans (hp1.trans hp2))
      simp only [rMin, hs, if_true, if_pos hlen] at fin
      generalize (partP o i).1.length = n at *
      have ed : ((n : Int) == (o.length : Int)) = decide (n = o.length) := by
        by_cases e : n = o.length <;> simp [e]; omega
      by_cases h0 : 0 < o.length
      · have h0' : (0 : Int) < o.length := by omega
        have hne : o ≠ [] := by rintro rfl; simp at h0
        rw [decide_eq_true h0, Bool.true_and] at fin
        simp (maxSteps := 1000000) [go_sem, undef, d1, d2, d3, h0, h0', hne, ed]
        first | exact fin | (rw [ed]; exact fin)
      · have h0' : ¬ ((0 : Int) < o.length) := by omega
        have hne : o = [] := by cases o <;> simp_all
        subst hne
        simp (maxSteps := 1000000) [go_sem, undef, d1, d2, d3]
        simpa using fin
    · have hlen' : ((12 : Int) < o.length) := by omega
      have hlen2 : (12 < o.length) := by omega
      have fin := h H1 (hp0.trans hp1)
      simp only [rMin, hs, if_true, if_neg hlen] at fin
      simp (maxSteps := 1000000) [go_sem, d1, d2, d3, hlen', hlen2]
      exact fin

end Go.Proofs.Ytdfeoccjllljiaa
end

section
/- DifferenceTrade on both sides. -/
set_option linter.all false
set_option maxRecDepth 20000
set_option maxHeartbeats 8000000
namespace Go.Proofs.Ytdfeoccjllljiaa
open Go.Ab Go.Sort

noncomputable def rDiff (p : Int) (x : List Bk) (q : Int) (y : List Bk) : (Int × List Bk × List Bk) × Int :=
  if sysB p x && sysB q y then (if p = q ∧ samePairs x y = true then ((p, lessB x y, lessB y x), 0) else ((0, [], []), 5)) else ((0, [], []), 1)
theorem rDiff_len (p : Int) (x : List Bk) (q : Int) (y : List Bk) : (rDiff p x q y).1.2.1.length ≤ 1048576 ∧ (rDiff p x q y).1.2.2.length ≤ 1048576 := by
  unfold rDiff
  split
  · rename_i h
    simp only [Bool.and_eq_true] at h
    have h1 := (sysB_iff.1 h.1).2.1
    have h2 := (sysB_iff.1 h.2).2.1
    have hlx : (lessB x y).length ≤ x.length := List.length_filter_le _ _
    have hly : (lessB y x).length ≤ y.length := List.length_filter_le _ _
    split
    · simp only; omega
    · simp
  · simp
theorem less_sort {p : Int} {x : List Bk} (h : IsSys p x) (y : List Bk) : sortB (lessB x y) = lessB x y := by
  have hs : x.Pairwise (fun a b => before b a = false) := by have := sortB_sorted _ x rfl; rwa [sys_sort h] at this
  exact (sort_uniq (List.Perm.refl _) (hs.filter _)).symm

end Go.Proofs.Ytdfeoccjllljiaa
end

section
/- CarryOut on both sides. -/
set_option linter.all false
set_option maxRecDepth 20000
set_option maxHeartbeats 8000000
namespace Go.Proofs.Ytdfeoccjllljiaa
open Go.Ab Go.Sort

noncomputable def rCarry (p : Int) (bs : List Bk) (q : Int) (o i : List Bk) : (Int × List Bk) × Int :=
  if sysB p bs && tradeB q o i then (if fitsB p bs q o then ((p, sortB (lessB bs o ++ i)), 0) else ((0, []), 5)) else ((0, []), 1)
theorem sortB_len (bs : List Bk) : (sortB bs).length = bs.length := (sortB_perm _ bs rfl).length_eq
theorem rCarry_len (p : Int) (bs : List Bk) (q : Int) (o i : List Bk) : (rCarry p bs q o i).1.2.length ≤ 1048576 := by
  unfold rCarry
  split
  · rename_i h
    simp only [Bool.and_eq_true] at h
    have h1 := (sysB_iff.1 h.1).2.1
    have h2 := (tradeB_sys h.2).2.2.1
    have hlx : (lessB bs o).length ≤ bs.length := List.length_filter_le _ _
    split
    · simp only [sortB_len, List.length_append]; omega
    · simp
  · simp
theorem l04Less_oe' {H : Heap} {u w : Value} {x y : List Bk} (hu : BlocksAt H u x) (hw : BlocksAt H w y) (hl : x.length ≤ 1048576) (Post : Value → Heap → Prop)
    (h : ∀ H' v, H <+: H' → OE 3 H.length H' v (tri (lessB x y)) (lessB x y).length → Post v H') : ACalls Try.prog 88 [u, w] H Post := by
  refine l04Less_oe hu hw hl _ fun H' id hp hid ho => h H' _ hp ⟨ho.1, .inr (.inr ⟨id, hid, rfl, ?_⟩)⟩
  rcases ho.2 with ⟨e, hg⟩ | e
  · exact .inl ⟨e, .inl hg⟩
  · exact .inr e

end Go.Proofs.Ytdfeoccjllljiaa
end

section
/- PutBlock on both sides. -/
set_option linter.all false
set_option maxRecDepth 20000
set_option maxHeartbeats 8000000
namespace Go.Proofs.Ytdfeoccjllljiaa
open Go.Ab Go.Sort

noncomputable def rPut (p : Int) (bs : List Bk) (b : Bk) : (Int × List Bk) × Int :=
  if sysB p bs then (if good p b then (if leftB bs b then ((p, sortB (bs ++ [b])), 0) else ((0, []), 5)) else ((0, []), 2)) else ((0, []), 1)
theorem rPut_len (p : Int) (bs : List Bk) (b : Bk) : (rPut p bs b).1.2.length ≤ 1048576 := by
  unfold rPut
  split
  · rename_i h
    have h1 := (sysB_iff.1 h).2.1
    split
    · split
      · simp only [sortB_len, List.length_append, List.length_singleton]; omega
      · simp
    · simp
  · simp

theorem isLeftB_ok {H : Heap} {id : Nat} {gs : List Int} {bs : List Bk} {b : Bk} {p : Int} (hg : GridAt H id gs) (hgo : GridOf gs bs) (hb : good p b = true) (hp : p ≤ 15) (Post : Value → Heap → Prop) (h : ∀ H', H <+: H' → Post (.bool (leftB bs b)) H') :
    ACalls Try.prog 164 [.pointer (some ⟨id, 0, none⟩), b.val] H Post := by
  have hgd : 0 ≤ b.a ∧ b.a < b.b ∧ b.b < b.c ∧ b.c < p := by simpa [good, and_assoc] using hb
  obtain ⟨x, y, z⟩ := b
  simp only at hgd
  obtain ⟨a, rfl⟩ : ∃ n : Nat, x = n := ⟨x.toNat, by omega⟩
  obtain ⟨c, rfl⟩ : ∃ n : Nat, y = n := ⟨y.toNat, by omega⟩
  obtain ⟨d, rfl⟩ : ∃ n : Nat, z = n := ⟨z.toNat, by omega⟩
  refine isLeft_ok hg (by omega) (by omega) (by omega) _ ?_
  intro H' hp'
  have := h H' hp'
  have e1 := hgo.2 a c (by omega) (by omega)
  have e2 := hgo.2 a d (by omega) (by omega)
  have e3 := hgo.2 c d (by omega) (by omega)
  rw [if_neg (by omega)] at e1 e2 e3
  rw [e1, e2, e3]
  exact this

end Go.Proofs.Ytdfeoccjllljiaa
end

section
/- PutBlock: the specification's side. -/
set_option linter.all false
set_option maxRecDepth 20000
set_option maxHeartbeats 8000000
namespace Go.Proofs.Ytdfeoccjllljiaa
open Go.Ab Go.Sort

/-- An append to an empty list of one's own. -/
theorem emptyAppend {e L : Nat} {H : Heap} {id : Nat} (hL : L ≤ id) (hb : H[id]? = some ⟨[], true, true⟩) (he : 0 < e) {m : Nat} {news : List Value} (hn : news.length = m * e) :
    ∃ v' H', appendH H e (.slice (some ⟨id, 0, none⟩) 0 0) m news = some (v', H') ∧ OE e L H' v' news m ∧ H <+: H' := by
  have hid := (List.getElem?_eq_some_iff.1 hb).1
  by_cases hm : m = 0
  · subst hm
    have : news = [] := List.eq_nil_of_length_eq_zero (by simpa using hn)
    subst this
    exact ⟨_, H, by simp [appendH], OE.empty hL hb, List.prefix_refl _⟩
  · have hc : cellsAt H id 0 0 = some [] := by rw [cellsAt_of hb rfl (by simp)]; simp
    exact ⟨lv e H.length 0 m, H ++ [⟨news, true, true⟩], by simp [appendH, hm, hc], ⟨hn, .inr (.inr ⟨H.length, by omega, rfl, .inr (by simp)⟩)⟩, List.prefix_append _ _⟩

end Go.Proofs.Ytdfeoccjllljiaa
end
