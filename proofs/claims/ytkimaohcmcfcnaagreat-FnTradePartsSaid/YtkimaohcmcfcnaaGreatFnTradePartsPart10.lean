/- Part 10 of what the proof of the law FnTradeParts rests on: contracts of functions of the program, for every argument that each names; no statement of the seat is proved here. -/
import Derived.Test.YtkimaohcmcfcnaaGreatFnTradePartsPart9

set_option linter.all false
set_option maxRecDepth 20000
set_option maxHeartbeats 8000000
section
namespace Go.Proofs.YtkimaohcmcfcnaaGreat
open Go.Ab Go.Sort

def coverB (o : List Bk) (b : Bk) : Bool := decide ((b.a, b.b) ∈ pairsB o) && (decide ((b.a, b.c) ∈ pairsB o) && decide ((b.b, b.c) ∈ pairsB o))
def innerB (i o : List Bk) : List Bk := i.filter (coverB o)
theorem innerB_le (i o : List Bk) : (innerB i o).length <= i.length := List.length_filter_le _ _

theorem third_pair {o : List Bk} (hg : ∀ x ∈ o, good 15 x = true) {p q : Int} (hpq : p < q) : decide (third o p q ≠ -1) = decide ((p, q) ∈ pairsB o) := by
  have h := third_neg hg (p := p) (q := q) (by omega)
  apply decide_eq_decide.2
  rw [Ne, h]
  constructor
  · intro hn
    obtain ⟨x, hx⟩ := Classical.not_forall.1 hn
    obtain ⟨hx, hx2⟩ := Classical.not_imp.1 hx
    have hx2 := Classical.not_not.1 hx2
    have hgx := hg x hx
    rw [good_iff] at hgx
    refine mem_pairsB.2 ⟨x, hx, ?_⟩
    simp only [Bk.has, Bool.or_eq_true, beq_iff_eq, decide_eq_true_eq] at hx2
    simp only [prs, List.mem_cons, List.not_mem_nil, or_false, Prod.mk.injEq]
    omega
  · intro hm hall
    obtain ⟨x, hx, hp⟩ := mem_pairsB.1 hm
    exact hall x hx (prs_has hp)

theorem partner_ok {H : Heap} {u w : Value} {o i : List Bk} (hu : BlocksAt H u o) (hw : BlocksAt H w i) (hg : ∀ x ∈ o, good 15 x = true) (hF : Fits o) (hgi : ∀ x ∈ i, good 15 x = true) (hl : i.length <= 1048576) (hlo : o.length <= 1048576) (Post : Value -> Heap -> Prop)
    (h : ∀ H' v, H <+: H' -> BlocksIn H.length H'.length H' v (innerB i o) -> Post (.tuple #[v, .bool (decide ((innerB i o).length = o.length))]) H') : ACalls Tryz.prog 51 [u, w] H Post := by
  obtain ⟨j, q, rfl, h1, h2⟩ := hw
  obtain ⟨j0, q0, rfl, g1, g2⟩ := hu
  refine ACalls.res ?_
  refine acalls_vc (rs := [.tmp 4, .tmp 5]) Tryz.func51 rfl rfl Tryz.ntmps51 rfl rfl ?_
  simp (maxSteps := 1000000) [go_sem]
  refine gridOf_ok ⟨j0, q0, rfl, g1, g2⟩ hg _ (fun H' _ hn => absurd hF hn) ?_
  intro H1 gid gs hp1 _ hga hgo _
  simp (maxSteps := 1000000) [go_sem]
  refine AWp.addGhost ?_
  refine AWp.loopVc (St := Nat × Nat) (fun s => [(0, lv 3 j0 q0 o.length), (6, .pointer (some ⟨gid, 0, none⟩)), (8, lv 3 s.2 0 (innerB (i.take s.1) o).length), (16, lv 3 j q i.length), (17, .int .i64 i.length), (18, .int .i64 s.1)])
    (fun s H' => s.1 <= i.length /\ Bl 3 H1 H' s.2 (tri (innerB (i.take s.1) o)) (innerB (i.take s.1) o).length) (fun s => i.length - s.1) (0, H1.length) ?_ ?_ ?_
  · simp [upF, Fr.get, Up.refl, innerB, Up.nil]
  · exact ⟨by simp, by simpa [innerB, tri] using Bl.ghost 3 H1⟩
  · rintro K ⟨s, id⟩ H' ⟨hs, hbl⟩ hK
    simp only at hs hbl
    by_cases hlt : s < i.length
    · have hw_s : IntKind.i64.wrap ((s : Int) + 1) = (s : Int) + 1 := i64w (by omega) (by omega)
      have hbs : i[s]? = some i[s] := List.getElem?_eq_getElem hlt
      have c1 := (h1.pre (hp1.trans hbl.1)).bk hbs
      have htk := List.take_succ_eq_append_getElem hlt
      obtain ⟨a, b, c, hb, hab, hbc, hc15⟩ := good_nat (hgi _ (List.mem_of_getElem? hbs)) (Int.le_refl _)
      rw [hb] at c1 htk
      simp only [Bk.cells] at c1
      have hll : (innerB (i.take s) o).length <= s := Nat.le_trans (innerB_le _ _) (by simp; omega)
      have hp2 : H' <+: H' ++ [⟨[.int .i64 (a : Int), .int .i64 (b : Int), .int .i64 (c : Int)], true, true⟩] := List.prefix_append _ _
      have hbl2 := hbl.pre hp2
      have hga2 := (hga.keep hbl.1).keep hp2
      have hx2 := Holds.last H' [.int .i64 (a : Int), .int .i64 (b : Int), .int .i64 (c : Int)]
      obtain ⟨e0, e1, e2, e3⟩ := (show Holds (H' ++ [⟨[.int .i64 (a : Int), .int .i64 (b : Int), .int .i64 (c : Int)], true, true⟩]) H'.length (Bk.cells ⟨a, b, c⟩) from hx2).bk
      have l1 := hga2.load (k := a * 15 + b) (by omega)
      have l2 := hga2.load (k := a * 15 + c) (by omega)
      have l3 := hga2.load (k := b * 15 + c) (by omega)
      have n1 : gs.getD (a * 15 + b) 0 = third o a b := by have := hgo.2 a b (by omega) (by omega); rw [if_neg (by omega)] at this; exact this
      have n2 : gs.getD (a * 15 + c) 0 = third o a c := by have := hgo.2 a c (by omega) (by omega); rw [if_neg (by omega)] at this; exact this
      have n3 : gs.getD (b * 15 + c) 0 = third o b c := by have := hgo.2 b c (by omega) (by omega); rw [if_neg (by omega)] at this; exact this
      rw [n1] at l1; rw [n2] at l2; rw [n3] at l3
      have ecov : coverB o ⟨a, b, c⟩ = (decide (third o a b ≠ -1) && (decide (third o a c ≠ -1) && decide (third o b c ≠ -1))) := by
        rw [third_pair hg (by omega), third_pair hg (by omega), third_pair hg (by omega)]; rfl
      have a15 : a < 15 := by omega
      have b15 : b < 15 := by omega
      have c15 : c < 15 := by omega
      have a15' : (a : Int) < 15 := by omega
      have b15' : (b : Int) < 15 := by omega
      have c15' : (c : Int) < 15 := by omega
      generalize third o a b = t1 at *
      generalize third o a c = t2 at *
      generalize third o b c = t3 at *
      have no : coverB o ⟨a, b, c⟩ = false -> innerB (i.take (s + 1)) o = innerB (i.take s) o := by
        intro hc; rw [htk]; simp [innerB, hc]
      simp (maxSteps := 1000000) [go_sem, hlt, c1]
      generalize H' ++ [(⟨[.int .i64 (a : Int), .int .i64 (b : Int), .int .i64 (c : Int)], true, true⟩ : Blk)] = H2 at *
      have yes : coverB o ⟨a, b, c⟩ = true -> ∃ H4, innerB (i.take (s + 1)) o = innerB (i.take s) o ++ [⟨a, b, c⟩] /\
          cellsAt (H2 ++ [⟨[.int .i64 (a : Int), .int .i64 (b : Int), .int .i64 (c : Int)], true, true⟩]) H2.length 0 3 = some [.int .i64 (a : Int), .int .i64 (b : Int), .int .i64 (c : Int)] /\
          appendH (H2 ++ [⟨[.int .i64 (a : Int), .int .i64 (b : Int), .int .i64 (c : Int)], true, true⟩]) 3 (lv 3 id 0 (innerB (i.take s) o).length) 1 [.int .i64 (a : Int), .int .i64 (b : Int), .int .i64 (c : Int)] = some (lv 3 (H2.length + 1) 0 ((innerB (i.take s) o).length + 1), H4) /\
          Bl 3 H1 H4 (H2.length + 1) (tri (innerB (i.take (s + 1)) o)) (innerB (i.take (s + 1)) o).length := by
        intro hc
        have e : innerB (i.take (s + 1)) o = innerB (i.take s) o ++ [⟨a, b, c⟩] := by rw [htk]; simp [innerB, hc]
        obtain ⟨hsrc, H4, hap, hbl4⟩ := hbl2.push (xs := [.int .i64 (a : Int), .int .i64 (b : Int), .int .i64 (c : Int)]) (by omega) rfl
        refine ⟨H4, e, hsrc, hap, ?_⟩
        rw [e, tri_append, List.length_append]
        exact hbl4
      refine AWp.draw mixed [(0, false), (1, false), (2, false), (3, false), (4, false), (5, false), (6, false), (7, false), (8, false), (9, false), (10, false), (11, false), (12, false), (13, false), (14, false), (15, false), (16, false), (17, false), (18, false), (19, false), (20, false), (21, false), (22, false), (23, false), (24, false), (25, false), (26, false), (27, false), (28, false), (29, false), (30, false), (31, false), (32, false), (33, false)] (by kernel_rfl) ?_
      have stay : coverB o ⟨a, b, c⟩ = false -> ∀ fr, upF H2 [(0, lv 3 j0 q0 o.length), (6, .pointer (some ⟨gid, 0, none⟩)), (8, lv 3 id 0 (innerB (i.take s) o).length), (16, lv 3 j q i.length), (17, .int .i64 i.length), (18, .int .i64 ((s + 1 : Nat) : Int))] fr -> K fr H2 := by
        intro hc fr hup
        have e := no hc
        exact hK (s + 1, id) _ _ (by simp only; omega) (by simp only [e]; exact hup) ⟨by simp only; omega, by simp only; rw [e]; exact hbl2⟩
      by_cases ht1 : t1 = -1
      · simp (maxSteps := 1000000) [go_sem, undef, e0, e1, e2, e3, l1, l2, l3, a15, b15, c15, a15', b15', c15', ht1, hw_s]
        exact stay (by rw [ecov]; simp [ht1]) _ (by simp [upF, Fr.get, Up.refl])
      · have ht1' : (t1 != -1) = true := by simpa using ht1
        by_cases ht2 : t2 = -1
        · simp (maxSteps := 1000000) [go_sem, undef, e0, e1, e2, e3, l1, l2, l3, a15, b15, c15, a15', b15', c15', ht1, ht1', ht2, hw_s]
          exact stay (by rw [ecov]; simp [ht2]) _ (by simp [upF, Fr.get, Up.refl])
        · have ht2' : (t2 != -1) = true := by simpa using ht2
          by_cases ht3 : t3 = -1
          · simp (maxSteps := 1000000) [go_sem, undef, e0, e1, e2, e3, l1, l2, l3, a15, b15, c15, a15', b15', c15', ht1, ht1', ht2, ht2', ht3, hw_s]
            exact stay (by rw [ecov]; simp [ht3]) _ (by simp [upF, Fr.get, Up.refl])
          · have ht3' : (t3 != -1) = true := by simpa using ht3
            obtain ⟨H4, e, q1, q2, q3⟩ := yes (by rw [ecov]; simp [ht1, ht2, ht3])
            have el : (innerB (i.take (s + 1)) o).length = (innerB (i.take s) o).length + 1 := by rw [e]; simp
            generalize (innerB (i.take s) o).length = n at *
            simp (maxSteps := 1000000) [go_sem, undef, e0, e1, e2, e3, l1, l2, l3, a15, b15, c15, a15', b15', c15', ht1, ht1', ht2, ht2', ht3, ht3', q1, q2, hw_s]
            refine andK_intro (by omega) (hK (s + 1, H2.length + 1) _ _ (by simp only; omega) ?_ ⟨by simp only; omega, q3⟩)
            simp only [el]
            simp [upF, Fr.get, Up.refl]
    · have : s = i.length := by omega
      subst this
      rw [List.take_length] at hbl
      have hll := innerB_le i o
      have hle := hp1.length_le
      have fin := h H' (lv 3 id 0 (innerB i o).length) (hp1.trans hbl.1) (by
        refine ⟨id, ⟨rfl, ?_, by omega⟩, fun _ => ⟨by have := hbl.2.2; omega, hbl.2.1.lt⟩⟩
        rcases hbl.2.1.2 with ⟨e, _⟩ | e
        · left; exact List.eq_nil_of_length_eq_zero e
        · right; exact e)
      have ed : (((innerB i o).length : Int) == (o.length : Int)) = decide ((innerB i o).length = o.length) := by
        by_cases e : (innerB i o).length = o.length <;> simp [e]; omega
      simp (maxSteps := 1000000) [go_sem, ed]
      first | exact ⟨_, Up.refl _ _, fin⟩ | (rw [ed]; exact ⟨_, Up.refl _ _, fin⟩)

end Go.Proofs.YtkimaohcmcfcnaaGreat
end

section
namespace Go.Proofs.YtkimaohcmcfcnaaGreat
open Go.Ab Go.Sort

theorem code_mem {o : List Bk} (hg : ∀ x ∈ o, good 15 x = true) {x y : Nat} (hxy : x < y) (hy : y < 15) : decide (x * 16 + y ∈ codesB o) = decide (((x : Int), (y : Int)) ∈ pairsB o) := by
  apply decide_eq_decide.2
  unfold codesB
  rw [List.mem_map]
  have e : codeP ((x : Int), (y : Int)) = x * 16 + y := by simp only [codeP]; omega
  constructor
  · rintro ⟨p, hp, hc⟩
    have := code_inj (pairs_lt hg hp) (q := ((x : Int), (y : Int))) (by simp only; omega) (by rw [hc, e])
    rwa [this] at hp
  · exact fun h => ⟨_, h, e⟩

theorem l04Inner_ok {H : Heap} {u w : Value} {o i : List Bk} (hu : BlocksAt H u o) (hw : BlocksAt H w i) (hg : ∀ x ∈ o, good 15 x = true) (hgi : ∀ x ∈ i, good 15 x = true) (hl : i.length <= 1048576) (hlo : o.length <= 1048576) (Post : Value -> Heap -> Prop)
    (h : ∀ H' v, H <+: H' -> BlocksIn H.length H'.length H' v (innerB i o) -> Post v H') : ACalls Tryz.prog 37 [w, u] H Post := by
  obtain ⟨j, q, rfl, h1, h2⟩ := hw
  refine ACalls.res ?_
  refine acalls_vc (rs := [.tmp 4]) Tryz.func37 rfl rfl Tryz.ntmps37 rfl rfl ?_
  simp (maxSteps := 1000000) [go_sem]
  refine l04Pairs_ok hu hg hlo _ ?_
  intro H1 pid hp1 hb1
  simp (maxSteps := 1000000) [go_sem]
  have bl0 := Bl.nil 3 H1
  generalize H1 ++ [(⟨[], true, true⟩ : Blk)] = HX at bl0 ⊢
  refine AWp.loopVc (St := Nat × Nat) (fun s => [(0, lv 3 j q i.length), (5, .slice (some ⟨pid, 0, none⟩) 256 256), (6, lv 3 s.2 0 (innerB (i.take s.1) o).length), (7, .int .i64 s.1)])
    (fun s H' => s.1 <= i.length /\ Bl 3 H1 H' s.2 (tri (innerB (i.take s.1) o)) (innerB (i.take s.1) o).length) (fun s => i.length - s.1) (0, H1.length) ?_ ?_ ?_
  · simp [upF, Fr.get, Up.refl, innerB, Up.ex0]
  · exact ⟨by simp, by simpa [innerB, tri] using bl0⟩
  · rintro K ⟨s, id⟩ H' ⟨hs, hbl⟩ hK
    simp only at hs hbl
    by_cases hlt : s < i.length
    · have hw_s : IntKind.i64.wrap ((s : Int) + 1) = (s : Int) + 1 := i64w (by omega) (by omega)
      have hbs : i[s]? = some i[s] := List.getElem?_eq_getElem hlt
      have c1 := (h1.pre (hp1.trans hbl.1)).bk hbs
      have htk := List.take_succ_eq_append_getElem hlt
      obtain ⟨a, b, c, hb, hab, hbc, hc15⟩ := good_nat (hgi _ (List.mem_of_getElem? hbs)) (Int.le_refl _)
      rw [hb] at c1 htk
      simp only [Bk.cells] at c1
      have hll : (innerB (i.take s) o).length <= s := Nat.le_trans (innerB_le _ _) (by simp; omega)
      have hp2 : H' <+: H' ++ [⟨[.int .i64 (a : Int), .int .i64 (b : Int), .int .i64 (c : Int)], true, true⟩] := List.prefix_append _ _
      have hbl2 := hbl.pre hp2
      have hpb : (H' ++ [(⟨[.int .i64 (a : Int), .int .i64 (b : Int), .int .i64 (c : Int)], true, true⟩ : Blk)])[pid]? = some ⟨metC 256 (codesB o), true, true⟩ := pget (hbl.1.trans hp2) hb1
      have hx2 := Holds.last H' [.int .i64 (a : Int), .int .i64 (b : Int), .int .i64 (c : Int)]
      obtain ⟨e0, e1, e2, e3⟩ := (show Holds (H' ++ [⟨[.int .i64 (a : Int), .int .i64 (b : Int), .int .i64 (c : Int)], true, true⟩]) H'.length (Bk.cells ⟨a, b, c⟩) from hx2).bk
      simp (maxSteps := 1000000) [go_sem, hlt, c1]
      generalize H' ++ [(⟨[.int .i64 (a : Int), .int .i64 (b : Int), .int .i64 (c : Int)], true, true⟩ : Blk)] = H2 at *
      have ld : ∀ x y : Nat, x < y -> y < 15 -> cellsAt H2 pid (x * 16 + y) 1 = some [.bool (decide (((x : Int), (y : Int)) ∈ pairsB o))] := by
        intro x y hxy hy
        rw [<- code_mem hg hxy hy]
        exact Holds.cell (H := H2) ⟨true, hpb⟩ (metC_get (by omega))
      have l1 := ld a b hab (by omega)
      have l2 := ld a c (by omega) hc15
      have l3 := ld b c hbc hc15
      have ecov : coverB o ⟨a, b, c⟩ = (decide (((a : Int), (b : Int)) ∈ pairsB o) && (decide (((a : Int), (c : Int)) ∈ pairsB o) && decide (((b : Int), (c : Int)) ∈ pairsB o))) := rfl
      have b1 : a * 16 + b < 256 := by omega
      have b2 : a * 16 + c < 256 := by omega
      have b3 : b * 16 + c < 256 := by omega
      have b1' : ((a * 16 + b : Nat) : Int) < 256 := by omega
      have b2' : ((a * 16 + c : Nat) : Int) < 256 := by omega
      have b3' : ((b * 16 + c : Nat) : Int) < 256 := by omega
      have p1 := fun Post => l04Pair_ok (H := H2) (x := a) (y := b) hab (by omega) Post
      have p2 := fun Post => l04Pair_ok (H := H2) (x := a) (y := c) (by omega) hc15 Post
      have p3 := fun Post => l04Pair_ok (H := H2) (x := b) (y := c) hbc hc15 Post
      generalize decide (((a : Int), (b : Int)) ∈ pairsB o) = t1 at *
      generalize decide (((a : Int), (c : Int)) ∈ pairsB o) = t2 at *
      generalize decide (((b : Int), (c : Int)) ∈ pairsB o) = t3 at *
      generalize a * 16 + b = n1 at *
      generalize a * 16 + c = n2 at *
      generalize b * 16 + c = n3 at *
      have yes : coverB o ⟨a, b, c⟩ = true -> ∃ H4, innerB (i.take (s + 1)) o = innerB (i.take s) o ++ [⟨a, b, c⟩] /\
          cellsAt (H2 ++ [⟨[.int .i64 (a : Int), .int .i64 (b : Int), .int .i64 (c : Int)], true, true⟩]) H2.length 0 3 = some [.int .i64 (a : Int), .int .i64 (b : Int), .int .i64 (c : Int)] /\
          appendH (H2 ++ [⟨[.int .i64 (a : Int), .int .i64 (b : Int), .int .i64 (c : Int)], true, true⟩]) 3 (lv 3 id 0 (innerB (i.take s) o).length) 1 [.int .i64 (a : Int), .int .i64 (b : Int), .int .i64 (c : Int)] = some (lv 3 (H2.length + 1) 0 ((innerB (i.take s) o).length + 1), H4) /\
          Bl 3 H1 H4 (H2.length + 1) (tri (innerB (i.take (s + 1)) o)) (innerB (i.take (s + 1)) o).length := by
        intro hc
        have e : innerB (i.take (s + 1)) o = innerB (i.take s) o ++ [⟨a, b, c⟩] := by rw [htk]; simp [innerB, hc]
        obtain ⟨hsrc, H4, hap, hbl4⟩ := hbl2.push (xs := [.int .i64 (a : Int), .int .i64 (b : Int), .int .i64 (c : Int)]) (by omega) rfl
        refine ⟨H4, e, hsrc, hap, ?_⟩
        rw [e, tri_append, List.length_append]
        exact hbl4
      have stay : coverB o ⟨a, b, c⟩ = false -> ∀ fr, upF H2 [(0, lv 3 j q i.length), (5, .slice (some ⟨pid, 0, none⟩) 256 256), (6, lv 3 id 0 (innerB (i.take s) o).length), (7, .int .i64 ((s + 1 : Nat) : Int))] fr -> K fr H2 := by
        intro hc fr hup
        have e : innerB (i.take (s + 1)) o = innerB (i.take s) o := by rw [htk]; simp [innerB, hc]
        exact hK (s + 1, id) _ _ (by simp only; omega) (by simp only [e]; exact hup) ⟨by simp only; omega, by simp only; rw [e]; exact hbl2⟩
      try simp (maxSteps := 1000000) [go_sem, e0, e1, e2, e3]
      refine p1 _ ?_
      cases t1 with
      | false =>
        simp (maxSteps := 1000000) [go_sem, undef, e0, e1, e2, e3, b1, b1', l1, hw_s]
        exact stay (by rw [ecov]; rfl) _ (by simp [upF, Fr.get, Up.refl])
      | true =>
        simp (maxSteps := 1000000) [go_sem, undef, e0, e1, e2, e3, b1, b1', l1, hw_s]
        refine p2 _ ?_
        cases t2 with
        | false =>
          simp (maxSteps := 1000000) [go_sem, undef, e0, e1, e2, e3, b2, b2', l2, hw_s]
          exact stay (by rw [ecov]; rfl) _ (by simp [upF, Fr.get, Up.refl])
        | true =>
          simp (maxSteps := 1000000) [go_sem, undef, e0, e1, e2, e3, b2, b2', l2, hw_s]
          refine p3 _ ?_
          cases t3 with
          | false =>
            simp (maxSteps := 1000000) [go_sem, undef, e0, e1, e2, e3, b3, b3', l3, hw_s]
            exact stay (by rw [ecov]; rfl) _ (by simp [upF, Fr.get, Up.refl])
          | true =>
            obtain ⟨H4, e, q1, q2, q3⟩ := yes (by rw [ecov]; rfl)
            have el : (innerB (i.take (s + 1)) o).length = (innerB (i.take s) o).length + 1 := by rw [e]; simp
            generalize (innerB (i.take s) o).length = n at *
            simp (maxSteps := 1000000) [go_sem, undef, e0, e1, e2, e3, b3, b3', l3, q1, q2, hw_s]
            refine andK_intro (by omega) (hK (s + 1, H2.length + 1) _ _ (by simp only; omega) ?_ ⟨by simp only; omega, q3⟩)
            simp only [el]
            simp [upF, Fr.get, Up.refl]
    · have : s = i.length := by omega
      subst this
      rw [List.take_length] at hbl
      have hll := innerB_le i o
      have hle := hp1.length_le
      have fin := h H' (lv 3 id 0 (innerB i o).length) (hp1.trans hbl.1) (by
        refine ⟨id, ⟨rfl, ?_, by omega⟩, fun _ => ⟨by have := hbl.2.2; omega, hbl.2.1.lt⟩⟩
        rcases hbl.2.1.2 with ⟨e, _⟩ | e
        · left; exact List.eq_nil_of_length_eq_zero e
        · right; exact e)
      simp (maxSteps := 1000000) [go_sem]
      exact ⟨_, Up.refl _ _, fin⟩

end Go.Proofs.YtkimaohcmcfcnaaGreat
end

section
namespace Go.Proofs.YtkimaohcmcfcnaaGreat
open Go.Ab

def subs : Nat -> List Bk -> List Bk -> List (List Bk)
  | 0, _, now => [now]
  | k + 1, rest, now => (List.range (rest.length - k)).flatMap fun i => subs k (rest.drop (i + 1)) (now ++ (rest[i]?).toList)
theorem find_none {α : Type} {p : α -> Bool} {F : Nat -> List α} {n : Nat} (h : ∀ i, i < n -> (F i).find? p = none) : ((List.range n).flatMap F).find? p = none := by
  rw [List.find?_eq_none]
  intro x hx
  obtain ⟨i, hi, hxi⟩ := List.mem_flatMap.1 hx
  exact List.find?_eq_none.1 (h i (List.mem_range.1 hi)) x hxi
theorem find_some {α : Type} {p : α -> Bool} {F : Nat -> List α} {x : α} {s : Nat} (h : ∀ i, i < s -> (F i).find? p = none) (hs : (F s).find? p = some x) : ∀ {n : Nat}, s < n -> ((List.range n).flatMap F).find? p = some x
  | 0, hn => by omega
  | n + 1, hn => by
    rw [List.range_succ, List.flatMap_append, List.find?_append]
    by_cases e : s = n
    · subst e
      rw [find_none h]
      simp [hs]
    · rw [find_some h hs (n := n) (by omega)]; rfl
def okS (ins s : List Bk) : Bool := decide ((innerB ins s).length = s.length)
def findP (ins : List Bk) (k : Nat) (rest now : List Bk) : Option (List Bk) := (subs k rest now).find? (okS ins)
theorem subs_sub : ∀ (k : Nat) (rest now s : List Bk), s ∈ subs k rest now -> ∃ t, s = now ++ t /\ t.Sublist rest /\ t.length = k
  | 0, rest, now, s, h => by
    simp only [subs, List.mem_singleton] at h
    exact ⟨[], by simp [h], List.nil_sublist _, rfl⟩
  | k + 1, rest, now, s, h => by
    simp only [subs, List.mem_flatMap, List.mem_range] at h
    obtain ⟨i, hi, h⟩ := h
    have hl : i < rest.length := by omega
    obtain ⟨t, h1, h2, h3⟩ := subs_sub k _ _ s h
    rw [List.getElem?_eq_getElem hl] at h1
    refine ⟨rest[i] :: t, by simp [h1], ?_, by simp [h3]⟩
    have e : rest.drop i = rest[i] :: rest.drop (i + 1) := List.drop_eq_getElem_cons hl
    exact (List.Sublist.cons_cons rest[i] h2).trans (e ▸ List.drop_sublist i rest)
theorem Fits.sub {l m : List Bk} (h : Fits l) (hs : m.Sublist l) : Fits m := by
  have key : ∀ l : List Bk, Fits l ↔ l.Pairwise (fun x y => common y x <= 1) := by
    intro l
    rw [List.pairwise_iff_getElem]
    constructor
    · intro h i j hi hj hij
      exact h j i _ _ hij (List.getElem?_eq_getElem hj) (List.getElem?_eq_getElem hi)
    · intro h a b x y hab hx hy
      obtain ⟨h1, rfl⟩ := List.getElem?_eq_some_iff.1 hx
      obtain ⟨h2, rfl⟩ := List.getElem?_eq_some_iff.1 hy
      exact h b a h2 h1 hab
  exact (key m).2 (((key l).1 h).sublist hs)

end Go.Proofs.YtkimaohcmcfcnaaGreat
end

section
namespace Go.Proofs.YtkimaohcmcfcnaaGreat
open Go.Ab Go.Sort

theorem oe_lower {e L L' : Nat} {H : Heap} {v : Value} {cs : List Value} {n : Nat} (h : OE e L H v cs n) (hL : L' <= L) : OE e L' H v cs n := by
  refine ⟨h.1, ?_⟩
  rcases h.2 with h | ⟨id, h1, h2, h3, h4⟩ | ⟨id, h1, h2, h3⟩
  · exact .inl h
  · exact .inr (.inl ⟨id, h1, by omega, h3, h4⟩)
  · exact .inr (.inr ⟨id, by omega, h2, h3⟩)

theorem partOf_ok : ∀ (k : Nat) {H : Heap} {u w v : Value} {rest ins now : List Bk} (hu : BlocksAt H u rest) (hw : BlocksAt H w ins) (hv : BlocksAt H v now) (hg : ∀ x ∈ now ++ rest, good 15 x = true) (hF : Fits (now ++ rest)) (hgi : ∀ x ∈ ins, good 15 x = true)
    (hl : ins.length <= 1048576) (hlr : now.length + rest.length <= 1048576) (hk : k <= 1000) (Post : Value -> Heap -> Prop)
    (hs : ∀ H' a b s, H <+: H' -> findP ins k rest now = some s -> BlocksAt H' a s -> BlocksAt H' b (innerB ins s) -> Post (.tuple #[a, b, .bool true]) H')
    (hn : ∀ H' a b, H <+: H' -> findP ins k rest now = none -> Post (.tuple #[a, b, .bool false]) H'),
    ACalls Tryz.prog 29 [u, w, v, .int .i64 (k : Nat)] H Post
  | 0, H, u, w, v, rest, ins, now, hu, hw, hv, hg, hF, hgi, hl, hlr, hk, Post, hs, hn => by
    refine acalls_vc (rs := [.tmp 8, .tmp 9, .tmp 10]) Tryz.func29 rfl rfl Tryz.ntmps29 rfl rfl ?_
    simp (maxSteps := 1000000) [go_sem]
    refine partner_ok hv hw (fun x hx => hg x (List.mem_append_left _ hx)) (Fits.sub hF (List.sublist_append_left _ _)) hgi hl (by omega) _ ?_
    intro H1 b hp1 hb
    have e : findP ins 0 rest now = if okS ins now then some now else none := by unfold findP subs; simp only [List.find?]; cases okS ins now <;> rfl
    cases ho : okS ins now with
    | true =>
      rw [show decide ((innerB ins now).length = now.length) = true from ho]
      simp (maxSteps := 1000000) [go_sem]
      exact hs H1 v b now hp1 (by rw [e, ho]; rfl) (hv.pre hp1) hb.read
    | false =>
      rw [show decide ((innerB ins now).length = now.length) = false from ho]
      simp (maxSteps := 1000000) [go_sem]
      exact hn H1 v b hp1 (by rw [e, ho]; rfl)
  | k + 1, H, u, w, v, rest, ins, now, hu, hw, hv, hg, hF, hgi, hl, hlr, hk, Post, hs, hn => by
    obtain ⟨i, o, rfl, h1, h2⟩ := hu
    refine acalls_vc (rs := [.tmp 8, .tmp 9, .tmp 10]) Tryz.func29 rfl rfl Tryz.ntmps29 rfl rfl ?_
    have w1 : IntKind.i64.wrap ((rest.length : Int) - ((k : Int) + 1)) = (rest.length : Int) - ((k : Int) + 1) := i64w (by omega) (by omega)
    obtain ⟨n, hnn⟩ : ∃ n, n = rest.length - k := ⟨_, rfl⟩
    have hn1 : n <= rest.length := by omega
    have hn1' : (n : Int) <= rest.length := by omega
    have hif : (if IntKind.i64.wrap ((rest.length : Int) - (k : Int)) < 0 then 0 else IntKind.i64.wrap ((rest.length : Int) - (k : Int))) = (n : Int) := by
      rw [i64w (by omega) (by omega)]; split <;> omega
    have hm2 : (rest.length : Int) - ((k : Int) + 1) + 1 = (rest.length : Int) - k := by omega
    have hk1 : ¬ ((k : Int) + 1 = 0) := by omega
    have hk2 : (((k : Int) + 1) == 0) = false := by simpa using hk1
    simp (maxSteps := 1000000) [go_sem, undef, hk1, hk2, w1, hm2, hif, hn1, hn1', sliceV, boundV, lenV]
    have hfind : findP ins (k + 1) rest now = ((List.range n).flatMap fun i => subs k (rest.drop (i + 1)) (now ++ (rest[i]?).toList)).find? (okS ins) := by rw [hnn]; rfl
    refine AWp.loopVc (St := Nat) (fun s => [(0, lv 3 i o rest.length), (1, w), (2, v), (3, .int .i64 ((k : Int) + 1)), (36, .int .i64 n), (37, .int .i64 s)])
      (fun s H' => s <= n /\ H <+: H' /\ ∀ j, j < s -> (subs k (rest.drop (j + 1)) (now ++ (rest[j]?).toList)).find? (okS ins) = none) (fun s => n - s) 0 ?_ ?_ ?_
    · simp [upF, Fr.get, Up.refl]
    · exact ⟨by omega, List.prefix_refl _, fun j hj => by omega⟩
    · rintro K s H' ⟨hsn, hp, hbef⟩ hK
      by_cases hlt : s < n
      · have hw_s : IntKind.i64.wrap ((s : Int) + 1) = (s : Int) + 1 := i64w (by omega) (by omega)
        have hlt' : (s : Int) < n := by omega
        have hsl : s < rest.length := by omega
        have hsl' : (s : Int) < rest.length := by omega
        have hs1 : s + 1 <= rest.length := by omega
        have hs1' : (s : Int) + 1 <= rest.length := by omega
        have wk : IntKind.i64.wrap (k : Int) = (k : Int) := i64w (by omega) (by omega)
        have hres : rest[s]? = some rest[s] := List.getElem?_eq_getElem hsl
        have ih := @partOf_ok k
        have c1 := (h1.pre hp).bk hres
        have hiH : i < H'.length := by
          rcases h1 with e | e
          · have := tri_length rest; rw [e] at this; simp at this; omega
          · obtain ⟨blk, hb, _⟩ := cellsAt_inv e
            have := (List.getElem?_eq_some_iff.1 hb).1
            have := hp.length_le
            omega
        have hsubl : (now ++ [rest[s]] ++ rest.drop (s + 1)).Sublist (now ++ rest) := by
          rw [List.append_assoc]
          refine List.Sublist.append (List.Sublist.refl _) ?_
          have e : rest.drop s = rest[s] :: rest.drop (s + 1) := List.drop_eq_getElem_cons hsl
          show (rest[s] :: rest.drop (s + 1)).Sublist rest
          rw [<- e]; exact List.drop_sublist s rest
        have hmem : rest[s] ∈ rest := List.getElem_mem hsl
        have hdrop : rest.drop s = rest[s] :: rest.drop (s + 1) := List.drop_eq_getElem_cons hsl
        have esub : (subs k (rest.drop (s + 1)) (now ++ (rest[s]?).toList)) = subs k (rest.drop (s + 1)) (now ++ [rest[s]]) := by rw [hres]; rfl
        generalize rest[s] = b at *
        simp only [Bk.cells] at c1
        simp (maxSteps := 1000000) [go_sem, hlt, hlt']
        refine AWp.drawFX (H'.length) mixed [11] [(0, false), (1, false), (2, false), (3, false), (4, false), (5, false), (7, false), (8, false), (9, false), (10, false), (13, false), (14, false), (6, true), (11, true), (12, true), (15, false), (16, false), (17, false), (18, false), (19, false), (20, false), (21, false), (22, false)] (.one 0 false (.one 1 false (.one 2 false (.one 3 false (.one 4 false (.one 5 false (.one 7 false (.one 8 false (.one 9 false (.one 10 false (.one 13 false (.one 14 false (.two 6 true (.one 11 true (.one 12 true (.one 15 false (.one 16 false (.one 17 false (.one 18 false (.one 19 false (.one 20 false (.one 21 false (.one 22 false .nil)))))))))) 11 (.one 6 true (.one 12 true (.one 15 false (.one 16 false (.one 17 false (.one 18 false (.one 19 false (.one 20 false (.one 21 false (.one 22 false .nil))))))))))))))))))))))) (by kernel_rfl) ?_
        simp (maxSteps := 1000000) [go_sem, undef, hlt, hlt', hw_s, hs1, hs1', hsl, hsl', c1, wk, sliceV, boundV, lenV]
        refine andK_intro hiH (andK_intro (by omega) (andK_intro hiH ?_))
        refine vTX_two ?_ ?_
        · simp (maxSteps := 1000000) [go_sem, undef, hlt, hlt', hw_s, hs1, hs1', hsl, hsl', c1, wk, sliceV, boundV, lenV]
          refine cloneB_oe (hv.pre hp) (by omega) _ ?_
          intro H4 v4 hp4 hv4
          have hkA : KeepL H'.length H' H4 := KeepL.of_prefix hp4 (Nat.le_refl _)
          have hp5 : H4 <+: H4 ++ [⟨[.int .i64 b.a, .int .i64 b.b, .int .i64 b.c], true, true⟩] := List.prefix_append _ _
          have hkB : KeepL H'.length H4 (H4 ++ [⟨[.int .i64 b.a, .int .i64 b.b, .int .i64 b.c], true, true⟩]) := KeepL.of_prefix hp5 hp4.length_le
          have hle4 := hp4.length_le
          have hl5 : (H4 ++ [(⟨[.int .i64 b.a, .int .i64 b.b, .int .i64 b.c], true, true⟩ : Blk)]).length = H4.length + 1 := by simp
          have hc : cellsAt (H4 ++ [⟨[.int .i64 b.a, .int .i64 b.b, .int .i64 b.c], true, true⟩]) H4.length 0 3 = some [.int .i64 b.a, .int .i64 b.b, .int .i64 b.c] := by simpa using (Holds.last H4 [.int .i64 b.a, .int .i64 b.b, .int .i64 b.c]).cells (n := 3) (o := 0) (by simp)
          obtain ⟨a4, rfl⟩ := hv4.shape
          replace hv4 := hv4.pre hp5
          obtain ⟨v6, H6, hap, he6, hk6, hl6⟩ := hv4.append (m := 1) (news := [.int .i64 b.a, .int .i64 b.b, .int .i64 b.c]) (by omega) (by omega) rfl
          obtain ⟨a6, rfl⟩ := he6.shape
          have hp6 : H' <+: H6 := KeepL.prefix (hp4.trans hp5) (Nat.le_refl _) hk6 (by omega)
          have hk6' : KeepL H'.length (H4 ++ [⟨[.int .i64 b.a, .int .i64 b.b, .int .i64 b.c], true, true⟩]) H6 := hk6
          have et : tri now ++ [.int .i64 b.a, .int .i64 b.b, .int .i64 b.c] = tri (now ++ [b]) := by rw [tri_append]; rfl
          rw [et] at he6
          obtain ⟨w6, hup6, hw6⟩ := (show OE 3 _ H6 _ (tri (now ++ [b])) (now ++ [b]).length by rw [List.length_append]; exact he6).blocks (by simp; omega)
          simp (maxSteps := 1000000) [go_sem, undef, hlt, hlt', hw_s, hs1, hs1', hsl, hsl', c1, wk, sliceV, boundV, lenV, hkA, hkB, hc, hap, hk6']
          refine andK_intro (by omega) ?_
          have hpp := hp.trans hp6
          refine ACalls.up (args' := [lv 3 i (o + (s + 1) * 3) (rest.length - (s + 1)), w, w6, .int .i64 (k : Nat)]) ⟨Up.refl _ _, Up.refl _ _, hup6, Up.refl _ _, trivial⟩ ?_
          refine ih (rest := rest.drop (s + 1)) (ins := ins) (now := now ++ [b]) ⟨i, o + (s + 1) * 3, by rw [List.length_drop], (h1.drop_tri (s + 1) hs1).pre hpp, by rw [List.length_drop]; omega⟩ (hw.pre hpp) hw6.read (fun x hx => hg x (hsubl.subset hx)) (Fits.sub hF hsubl) hgi hl (by rw [List.length_append, List.length_drop]; simp; omega) (by omega) _ ?_ ?_
          · intro H7 a b' s' hp7 hf ha hb'
            have hk7 : KeepL H'.length H6 H7 := KeepL.of_prefix hp7 (by have := hp6.length_le; omega)
            have ff : findP ins (k + 1) rest now = some s' := by rw [hfind]; exact find_some hbef (by rw [esub]; exact hf) hlt
            simp (maxSteps := 1000000) [go_sem, undef, hk7]
            exact hs H7 a b' s' (hpp.trans hp7) ff ha hb'
          · intro H7 a b' hp7 hf
            have hk7 : KeepL H'.length H6 H7 := KeepL.of_prefix hp7 (by have := hp6.length_le; omega)
            simp (maxSteps := 1000000) [go_sem, undef, hk7, hw_s]
            refine hK (s + 1) _ _ (by omega) (by simp [upF, Fr.get, Up.refl]) ⟨by omega, hpp.trans hp7, fun j hj => ?_⟩
            by_cases hjs : j = s
            · subst hjs; rw [esub]; exact hf
            · exact hbef j (by omega)
        · have hp5 : H' <+: H' ++ [⟨[.int .i64 b.a, .int .i64 b.b, .int .i64 b.c], true, true⟩] := List.prefix_append _ _
          have hkA : KeepL H'.length H' (H' ++ [⟨[.int .i64 b.a, .int .i64 b.b, .int .i64 b.c], true, true⟩]) := KeepL.of_prefix hp5 (Nat.le_refl _)
          have hnw := Holds.last H' [.int .i64 b.a, .int .i64 b.b, .int .i64 b.c]
          have hl5 : (H' ++ [(⟨[.int .i64 b.a, .int .i64 b.b, .int .i64 b.c], true, true⟩ : Blk)]).length = H'.length + 1 := by simp
          simp (maxSteps := 1000000) [go_sem, undef, hlt, hlt', hw_s, hs1, hs1', hsl, hsl', c1, wk, sliceV, boundV, lenV, hkA]
          generalize H' ++ [(⟨[.int .i64 b.a, .int .i64 b.b, .int .i64 b.c], true, true⟩ : Blk)] = HB at *
          refine cloneB_oe (hv.pre (hp.trans hp5)) (by omega) _ ?_
          intro H4 v4 hp4 hv4
          have hkB : KeepL H'.length HB H4 := KeepL.of_prefix hp4 (by omega)
          have hle4 := hp4.length_le
          have hc : cellsAt H4 H'.length 0 3 = some [.int .i64 b.a, .int .i64 b.b, .int .i64 b.c] := by simpa using (hnw.pre hp4).cells (n := 3) (o := 0) (by simp)
          obtain ⟨a4, rfl⟩ := hv4.shape
          replace hv4 := oe_lower (L' := H'.length) hv4 (by omega)
          obtain ⟨v6, H6, hap, he6, hk6, hl6⟩ := hv4.append (m := 1) (news := [.int .i64 b.a, .int .i64 b.b, .int .i64 b.c]) (by omega) (by omega) rfl
          obtain ⟨a6, rfl⟩ := he6.shape
          have hp6 : H' <+: H6 := KeepL.prefix (hp5.trans hp4) (Nat.le_refl _) hk6 (by omega)
          have hk6' : KeepL H'.length H4 H6 := hk6
          have et : tri now ++ [.int .i64 b.a, .int .i64 b.b, .int .i64 b.c] = tri (now ++ [b]) := by rw [tri_append]; rfl
          rw [et] at he6
          obtain ⟨w6, hup6, hw6⟩ := (show OE 3 _ H6 _ (tri (now ++ [b])) (now ++ [b]).length by rw [List.length_append]; exact he6).blocks (by simp; omega)
          simp (maxSteps := 1000000) [go_sem, undef, hlt, hlt', hw_s, hs1, hs1', hsl, hsl', c1, wk, sliceV, boundV, lenV, hkA, hkB, hc, hap, hk6']
          refine andK_intro (by omega) ?_
          have hpp := hp.trans hp6
          refine ACalls.up (args' := [lv 3 i (o + (s + 1) * 3) (rest.length - (s + 1)), w, w6, .int .i64 (k : Nat)]) ⟨Up.refl _ _, Up.refl _ _, hup6, Up.refl _ _, trivial⟩ ?_
          refine ih (rest := rest.drop (s + 1)) (ins := ins) (now := now ++ [b]) ⟨i, o + (s + 1) * 3, by rw [List.length_drop], (h1.drop_tri (s + 1) hs1).pre hpp, by rw [List.length_drop]; omega⟩ (hw.pre hpp) hw6.read (fun x hx => hg x (hsubl.subset hx)) (Fits.sub hF hsubl) hgi hl (by rw [List.length_append, List.length_drop]; simp; omega) (by omega) _ ?_ ?_
          · intro H7 a b' s' hp7 hf ha hb'
            have hk7 : KeepL H'.length H6 H7 := KeepL.of_prefix hp7 (by have := hp6.length_le; omega)
            have ff : findP ins (k + 1) rest now = some s' := by rw [hfind]; exact find_some hbef (by rw [esub]; exact hf) hlt
            simp (maxSteps := 1000000) [go_sem, undef, hk7]
            exact hs H7 a b' s' (hpp.trans hp7) ff ha hb'
          · intro H7 a b' hp7 hf
            have hk7 : KeepL H'.length H6 H7 := KeepL.of_prefix hp7 (by have := hp6.length_le; omega)
            simp (maxSteps := 1000000) [go_sem, undef, hk7, hw_s]
            refine hK (s + 1) _ _ (by omega) (by simp [upF, Fr.get, Up.refl]) ⟨by omega, hpp.trans hp7, fun j hj => ?_⟩
            by_cases hjs : j = s
            · subst hjs; rw [esub]; exact hf
            · exact hbef j (by omega)
      · have : s = n := by omega
        subst this
        have ff : findP ins (k + 1) rest now = none := by rw [hfind]; exact find_none hbef
        simp (maxSteps := 1000000) [go_sem]
        exact hn H' _ _ hp ff

end Go.Proofs.YtkimaohcmcfcnaaGreat
end

section
namespace Go.Proofs.YtkimaohcmcfcnaaGreat
open Go.Ab Go.Sort

theorem findS_none {α : Type} {F : Nat -> Option α} {n : Nat} (h : ∀ i, i < n -> F i = none) : (List.range n).findSome? F = none := by
  rw [List.findSome?_eq_none_iff]
  intro i hi
  exact h i (List.mem_range.1 hi)
theorem findS_some {α : Type} {F : Nat -> Option α} {x : α} {s : Nat} (h : ∀ i, i < s -> F i = none) (hs : F s = some x) : ∀ {n : Nat}, s < n -> (List.range n).findSome? F = some x
  | 0, hn => by omega
  | n + 1, hn => by
    rw [List.range_succ, List.findSome?_append]
    by_cases e : s = n
    · subst e
      rw [findS_none h]
      simp [hs]
    · rw [findS_some h hs (n := n) (by omega)]; rfl
def partP (o i : List Bk) : List Bk × List Bk :=
  match (List.range (o.length - 1)).findSome? fun k => findP i (k + 1) o [] with
  | some s => (s, innerB i s)
  | none => (o, i)

theorem firstPart_ok {H : Heap} {u w : Value} {o i : List Bk} (hu : BlocksAt H u o) (hw : BlocksAt H w i) (hg : ∀ x ∈ o, good 15 x = true) (hF : Fits o) (hgi : ∀ x ∈ i, good 15 x = true) (hl : o.length <= 12) (hli : i.length <= 1048576) (Post : Value -> Heap -> Prop)
    (h : ∀ H' a b, H <+: H' -> BlocksAt H' a (partP o i).1 -> BlocksAt H' b (partP o i).2 -> Post (.tuple #[a, b]) H') : ACalls Tryz.prog 15 [u, w] H Post := by
  obtain ⟨j, q, rfl, h1, h2⟩ := hu
  refine acalls_vc (rs := [.tmp 4, .tmp 5]) Tryz.func15 rfl rfl Tryz.ntmps15 rfl rfl ?_
  simp (maxSteps := 1000000) [go_sem]
  refine AWp.loopVc (St := Nat) (fun s => [(0, lv 3 j q o.length), (1, w), (6, .int .i64 ((s : Int) + 1))])
    (fun s H' => s <= o.length /\ H <+: H' /\ ∀ k, k < s -> findP i (k + 1) o [] = none) (fun s => o.length - s) 0 ?_ ?_ ?_
  · simp [upF, Fr.get, Up.refl]
  · exact ⟨by omega, List.prefix_refl _, fun k hk => by omega⟩
  · rintro K s H' ⟨hs, hp, hbef⟩ hK
    by_cases hlt : s + 1 < o.length
    · have hlt' : (s : Int) + 1 < o.length := by omega
      have ws : IntKind.i64.wrap ((s : Int) + 1 + 1) = (s : Int) + 1 + 1 := i64w (by omega) (by omega)
      simp (maxSteps := 1000000) [go_sem, hlt, hlt']
      refine ACalls.up (args' := [lv 3 j q o.length, w, lv 3 0 0 0, .int .i64 ((s + 1 : Nat) : Int)]) ⟨Up.refl _ _, Up.refl _ _, Up.nil _ _ _ _, by simpa using Up.refl _ _, trivial⟩ ?_
      refine partOf_ok (s + 1) (rest := o) (ins := i) (now := []) ⟨j, q, rfl, h1.pre hp, h2⟩ (hw.pre hp) ⟨0, 0, rfl, .inl rfl, by simp⟩ (by simpa using hg) (by simpa using hF) hgi hli (by simp; omega) (by omega) _ ?_ ?_
      · intro H2 a b s' hp2 hf ha hb
        have e : partP o i = (s', innerB i s') := by
          unfold partP
          rw [findS_some hbef hf (by omega)]
        have fin := h H2 a b (hp.trans hp2) (by rw [e]; exact ha) (by rw [e]; exact hb)
        simp (maxSteps := 1000000) [go_sem]
        exact fin
      · intro H2 a b hp2 hf
        simp (maxSteps := 1000000) [go_sem, ws]
        refine hK (s + 1) _ _ (by omega) (by simp [upF, Fr.get, Up.refl]) ⟨by omega, hp.trans hp2, fun k hk => ?_⟩
        by_cases hks : k = s
        · subst hks; exact hf
        · exact hbef k (by omega)
    · have hlt' : ¬ ((s : Int) + 1 < o.length) := by omega
      have e : partP o i = (o, i) := by
        unfold partP
        rw [findS_none fun k hk => hbef k (by omega)]
      have fin := h H' (lv 3 j q o.length) w hp (by rw [e]; exact ⟨j, q, rfl, h1.pre hp, h2⟩) (by rw [e]; exact hw.pre hp)
      simp (maxSteps := 1000000) [go_sem, hlt, hlt']
      exact fin

noncomputable def rMin (p : Int) (o i : List Bk) : Bool × Int :=
  if tradeB p o i then (if o.length <= 12 then (decide (0 < o.length) && decide ((partP o i).1.length = o.length), 0) else (false, 3)) else (false, 1)

theorem implIsMinimal_ok {H : Heap} {u w : Value} {p : Int} {o i : List Bk} (ht : TradeAt H u w o i) (hl : o.length <= 1048576 /\ i.length <= 1048576) (Post : Value -> Heap -> Prop)
    (h : ∀ H', H <+: H' -> Post (.tuple #[.bool (rMin p o i).1, .int .i64 (rMin p o i).2]) H') : ACalls Tryz.prog 10 [tradeV p u w] H Post := by
  obtain ⟨ou, ow⟩ := ht.one
  refine acalls_vc (rs := [.tmp 2, .tmp 3]) Tryz.func10 rfl rfl Tryz.ntmps10 rfl rfl ?_
  simp (maxSteps := 1000000) [go_sem, tradeV, ou, ow]
  have hp0 : H <+: H ++ [⟨[.int .i64 p, u, w], true, true⟩] := List.prefix_append _ _
  have hx0 := Holds.last H [.int .i64 p, u, w]
  generalize H ++ [(⟨[.int .i64 p, u, w], true, true⟩ : Blk)] = H0 at hp0 hx0 ⊢
  refine implIsTrade (ht.1.pre hp0) (ht.2.pre hp0) _ ?_
  intro H1 hp1
  obtain ⟨d0, d1, d2, d3⟩ := (hx0.pre hp1).tr
  cases hs : tradeB p o i with
  | false =>
    have fin := h H1 (hp0.trans hp1)
    simp only [rMin, hs, Bool.false_eq_true, if_false] at fin
    simp (maxSteps := 1000000) [go_sem]
    exact fin
  | true =>
    obtain ⟨hS1, hS2⟩ := tradeB_sys hs
    have hu1 := ht.1.pre (hp0.trans hp1)
    have hw1 := ht.2.pre (hp0.trans hp1)
    obtain ⟨j, q, rfl, h1, h2⟩ := hu1
    by_cases hlen : o.length <= 12
    · have hlen' : ¬ ((12 : Int) < o.length) := by omega
      have hlen2 : ¬ (12 < o.length) := by omega
      simp (maxSteps := 1000000) [go_sem, d1, d2, d3, hlen', hlen2]
      refine firstPart_ok ⟨j, q, rfl, h1, h2⟩ hw1 hS1.good15 hS1.2.2.2 hS2.good15 hlen hl.2 _ ?_
      intro H2 a b hp2 ha hb
      obtain ⟨d0, d1, d2, d3⟩ := (hx0.pre (hp1.trans hp2)).tr
      obtain ⟨ja, qa, rfl, _, _⟩ := ha
      have fin := h H2 (hp0.trans (hp1.trans hp2))
      simp only [rMin, hs, if_true, if_pos hlen] at fin
      generalize (partP o i).1.length = n at *
      have ed : ((n : Int) == (o.length : Int)) = decide (n = o.length) := by
        by_cases e : n = o.length <;> simp [e]; omega
      by_cases h0 : 0 < o.length
      · have h0' : (0 : Int) < o.length := by omega
        have hne : o ≠ [] := by rintro rfl; simp at h0
        rw [decide_eq_true h0, Bool.true_and] at fin
        simp (maxSteps := 1000000) [go_sem, undef, d1, d2, d3, h0, h0', hne, ed]
        first | exact fin | (rw [ed]; exact fin)
      · have h0' : ¬ ((0 : Int) < o.length) := by omega
        have hne : o = [] := by cases o <;> simp_all
        subst hne
        simp (maxSteps := 1000000) [go_sem, undef, d1, d2, d3]
        simpa using fin
    · have hlen' : ((12 : Int) < o.length) := by omega
      have hlen2 : (12 < o.length) := by omega
      have fin := h H1 (hp0.trans hp1)
      simp only [rMin, hs, if_true, if_neg hlen] at fin
      simp (maxSteps := 1000000) [go_sem, d1, d2, d3, hlen', hlen2]
      exact fin

end Go.Proofs.YtkimaohcmcfcnaaGreat
end

section
namespace Go.Proofs.YtkimaohcmcfcnaaGreat
open Go.Ab Go.Sort

theorem flat_pow {α : Type} {F : Nat -> List α} {m : Nat} : ∀ (n : Nat), n <= m -> (∀ i, i < n -> (F i).length <= 2 ^ (m - (i + 1))) -> ((List.range n).flatMap F).length + 2 ^ (m - n) <= 2 ^ m
  | 0, _, _ => by simp
  | n + 1, hn, h => by
    have ih := flat_pow n (by omega) fun i hi => h i (by omega)
    have h1 := h n (by omega)
    rw [List.range_succ, List.flatMap_append, List.length_append]
    simp only [List.flatMap_cons, List.flatMap_nil, List.append_nil]
    have e : 2 ^ (m - n) = 2 ^ (m - (n + 1)) + 2 ^ (m - (n + 1)) := by rw [show m - n = (m - (n + 1)) + 1 by omega, Nat.pow_succ]; omega
    omega
theorem subs_len : ∀ (k : Nat) (rest now : List Bk), (subs k rest now).length <= 2 ^ rest.length
  | 0, rest, now => by simp [subs]; exact Nat.one_le_two_pow
  | k + 1, rest, now => by
    simp only [subs]
    have := flat_pow (F := fun i => subs k (rest.drop (i + 1)) (now ++ (rest[i]?).toList)) (m := rest.length) (rest.length - k) (by omega) (fun i _ => by have := subs_len k (rest.drop (i + 1)) (now ++ (rest[i]?).toList); rwa [List.length_drop] at this)
    exact Nat.le_trans (Nat.le_add_right _ _) this
theorem subs_pre (k : Nat) (rest now : List Bk) (s : Nat) (hs : s <= rest.length) : ((List.range s).flatMap fun j => subs k (rest.drop (j + 1)) (now ++ (rest[j]?).toList)).length <= 2 ^ rest.length := by
  have := flat_pow (F := fun i => subs k (rest.drop (i + 1)) (now ++ (rest[i]?).toList)) (m := rest.length) s hs (fun i _ => by have := subs_len k (rest.drop (i + 1)) (now ++ (rest[i]?).toList); rwa [List.length_drop] at this)
  exact Nat.le_trans (Nat.le_add_right _ _) this

def RowIn (H : Heap) (L oid : Nat) (x : Value) (s : List Bk) : Prop := ∃ i o, x = lv 3 i o s.length /\ At H i o (tri s) /\ s.length <= 140737488355328 /\ (s ≠ [] -> L <= i /\ i < H.length /\ i ≠ oid)

theorem subsets_ok : ∀ (k : Nat) {H : Heap} {u v : Value} {list now : List Bk} {L fr : Nat} (hu : BlocksAt H u list) (hv : ∃ i o, v = lv 3 i o now.length /\ At H i o (tri now) /\ now.length <= 140737488355328 /\ (now ≠ [] -> L <= i)) (hL : L <= H.length) (hfr : fr <= list.length)
    (hnl : now.length + k <= 1000) (hll : list.length <= 12) (hk : k <= 12) (Post : Value -> Heap -> Prop)
    (h : ∀ (H' : Heap) (id : Nat) (rows : List (Value × List Bk)), H <+: H' -> H.length <= id -> OL 1 H' id (rows.map (·.1)) rows.length -> rows.map (·.2) = subs k (list.drop fr) now -> (∀ r ∈ rows, RowIn H' L id r.1 r.2) -> Post (lv 1 id 0 rows.length) H'),
    ACalls Tryz.prog 36 [u, v, .int .i64 (fr : Nat), .int .i64 (k : Nat)] H Post
  | 0, H, u, v, list, now, L, fr, hu, hv, hL, hfr, hnl, hll, hk, Post, h => by
    obtain ⟨i0, o0, rfl, hnow, hn2, hn3⟩ := hv
    refine ACalls.res ?_
    refine acalls_vc (rs := [.tmp 8]) Tryz.func36 rfl rfl Tryz.ntmps36 rfl rfl ?_
    simp (maxSteps := 1000000) [go_sem]
    have fin := h (H ++ [⟨[lv 3 i0 o0 now.length], true, true⟩]) H.length [(lv 3 i0 o0 now.length, now)] (List.prefix_append _ _) (Nat.le_refl _) ⟨by simp, .inr (by simp)⟩ rfl (by
      intro r hr
      simp at hr; subst hr
      refine ⟨i0, o0, rfl, hnow.pre (List.prefix_append _ _), hn2, fun hne => ?_⟩
      have : i0 < H.length := by
        rcases hnow with e | e
        · have := tri_length now; rw [e] at this; simp at this; exact absurd (List.eq_nil_of_length_eq_zero (show now.length = 0 by omega)) hne
        · obtain ⟨blk, hb, _⟩ := cellsAt_inv e
          exact (List.getElem?_eq_some_iff.1 hb).1
      exact ⟨hn3 hne, by simp; omega, by omega⟩)
    exact ⟨_, Up.ex (by omega) (.inr (by simp [go_sem])), fin⟩
  | k + 1, H, u, v, list, now, L, fr, hu, hv, hL, hfr, hnl, hll, hk, Post, h => by
    obtain ⟨i0, o0, rfl, hnow, hn2, hn3⟩ := hv
    obtain ⟨i, o, rfl, h1, h2⟩ := hu
    have ih := @subsets_ok k
    refine ACalls.res ?_
    refine acalls_vc (rs := [.tmp 8]) Tryz.func36 rfl rfl Tryz.ntmps36 rfl rfl ?_
    have hk1 : ¬ ((k : Int) + 1 = 0) := by omega
    have hk2 : (((k : Int) + 1) == 0) = false := by simpa using hk1
    simp (maxSteps := 1000000) [go_sem, hk1, hk2]
    have bl0 := Bl.nil 1 H
    generalize H ++ [(⟨[], true, true⟩ : Blk)] = HX at bl0 ⊢
    refine AWp.loopVc (St := Nat × Nat × List (Value × List Bk)) (fun s => [(0, lv 3 i o list.length), (1, lv 3 i0 o0 now.length), (3, .int .i64 ((k : Int) + 1)), (9, lv 1 s.2.1 0 s.2.2.length), (10, .int .i64 ((fr + s.1 : Nat) : Int))])
      (fun s H' => s.1 <= list.length - fr - k /\ H <+: H' /\ H.length <= s.2.1 /\ OL 1 H' s.2.1 (s.2.2.map (·.1)) s.2.2.length /\ s.2.2.map (·.2) = ((List.range s.1).flatMap fun j => subs k ((list.drop fr).drop (j + 1)) (now ++ ((list.drop fr)[j]?).toList)) /\ ∀ r ∈ s.2.2, RowIn H' L s.2.1 r.1 r.2)
      (fun s => list.length - fr - k - s.1) (0, H.length, []) ?_ ?_ ?_
    · simp [upF, Fr.get, Up.refl, Up.ex0]
    · exact ⟨by simp, bl0.1, Nat.le_refl _, bl0.2.1, by simp, by simp⟩
    · rintro K ⟨s, oid, rows⟩ H' ⟨hsn, hp, hoid, hol, hrows, hrd⟩ hK
      simp only at hsn hp hoid hol hrows hrd
      have hle := hp.length_le
      obtain ⟨g, hg⟩ : ∃ g, g = fr + s := ⟨_, rfl⟩
      have hg2 : fr + (s + 1) = g + 1 := by omega
      rw [<- hg]
      have hw1 : IntKind.i64.wrap ((g : Int) + ((k : Int) + 1)) = (g : Int) + ((k : Int) + 1) := i64w (by omega) (by omega)
      by_cases hlt : s < list.length - fr - k
      · have hlt' : (g : Int) + ((k : Int) + 1) <= list.length := by omega
        have hlt2 : g + (k + 1) <= list.length := by omega
        have hw2 : IntKind.i64.wrap ((g : Int) + 1) = (g : Int) + 1 := i64w (by omega) (by omega)
        have hwi := hw2
        have hwk : IntKind.i64.wrap (k : Int) = (k : Int) := i64w (by omega) (by omega)
        have hsl : g < list.length := by omega
        have hsl' : (g : Int) < list.length := by omega
        have hres0 : list[g]? = some list[g] := List.getElem?_eq_getElem hsl
        have hres : (list.drop fr)[s]? = some list[g] := by rw [List.getElem?_drop, <- hg]; exact hres0
        have c1 := (h1.pre hp).bk hres0
        have hiH : i < H'.length := by
          rcases h1 with e | e
          · have := tri_length list; rw [e] at this; simp at this; omega
          · obtain ⟨blk, hb, _⟩ := cellsAt_inv e
            have := (List.getElem?_eq_some_iff.1 hb).1
            omega
        generalize list[g] = b at *
        simp only [Bk.cells] at c1
        simp (maxSteps := 1000000) [go_sem, hw1, hlt', hlt2]
        refine AWp.drawFX (H'.length) mixed [9] [(0, false), (1, false), (3, false), (5, false), (6, false), (7, false), (8, false), (11, false), (12, false), (13, false), (14, false), (2, true), (4, true), (9, true), (10, false), (15, false), (16, false), (17, false)] (.one 0 false (.one 1 false (.one 3 false (.one 5 false (.one 6 false (.one 7 false (.one 8 false (.one 11 false (.one 12 false (.one 13 false (.one 14 false (.two 2 true (.two 4 true (.one 9 true (.one 10 false (.one 15 false (.one 16 false (.one 17 false .nil))))) 9 (.one 4 true (.one 10 false (.one 15 false (.one 16 false (.one 17 false .nil)))))) 9 (.one 2 true (.one 4 true (.one 10 false (.one 15 false (.one 16 false (.one 17 false .nil)))))))))))))))))) (by kernel_rfl) ?_
        simp (maxSteps := 1000000) [go_sem, undef, hlt', hlt2, hw1, hw2, hwk, hsl, hsl', c1]
        refine andK_intro hiH ?_
        refine vTX_two ?_ ?_
        · have hleX0 := ((List.prefix_refl H')).length_le
          have hs0 : H' <+: H' ++ [⟨[], true, true⟩] := List.prefix_append _ _
          have hkA : KeepL H'.length H' (H' ++ [⟨[], true, true⟩]) := KeepL.of_prefix hs0 (by omega)
          have hbE : (H' ++ [(⟨[], true, true⟩ : Blk)])[H'.length]? = some ⟨[], true, true⟩ := by simp
          have hlY0 : (H' ++ [(⟨[], true, true⟩ : Blk)]).length = H'.length + 1 := by simp
          try simp (maxSteps := 1000000) [go_sem, undef, hlt', hlt2, hw1, hw2, hwk, hsl, hsl', c1]
          generalize H' ++ [(⟨[], true, true⟩ : Blk)] = HS0 at *
          refine andK_intro hkA ?_
          have hleX1 := (((List.prefix_refl H').trans hs0)).length_le
          refine vTX_two ?_ ?_
          · obtain ⟨v4, HS1, hapP, hv4, hs1⟩ := emptyAppend (L := H'.length) (e := 3) (m := now.length) (news := tri now) (by omega) hbE (by omega) (by rw [tri_length])
            obtain ⟨a4, rfl⟩ := hv4.shape
            have hkB : KeepL H'.length HS0 HS1 := KeepL.of_prefix hs1 (by omega)
            have hsrc := tri_src ((hnow.pre hp).pre ((List.prefix_refl H').trans hs0))
            simp only [srcCells, List.length_eq_zero_iff] at hsrc
            simp (maxSteps := 1000000) [go_sem, undef, hlt', hlt2, hw1, hw2, hwk, hsl, hsl', c1, hkA, hkB, hsrc, hapP]
            refine andK_intro (by omega) ?_
            have hleX2 := ((((List.prefix_refl H').trans hs0).trans hs1)).length_le
            have hs2 : HS1 <+: HS1 ++ [⟨[.int .i64 b.a, .int .i64 b.b, .int .i64 b.c], true, true⟩] := List.prefix_append _ _
            have hkC : KeepL H'.length HS1 (HS1 ++ [⟨[.int .i64 b.a, .int .i64 b.b, .int .i64 b.c], true, true⟩]) := KeepL.of_prefix hs2 (by omega)
            have hcN := Holds.last HS1 [.int .i64 b.a, .int .i64 b.b, .int .i64 b.c]
            have hlY2 : (HS1 ++ [(⟨[.int .i64 b.a, .int .i64 b.b, .int .i64 b.c], true, true⟩ : Blk)]).length = HS1.length + 1 := by simp
            try simp (maxSteps := 1000000) [go_sem, undef, hlt', hlt2, hw1, hw2, hwk, hsl, hsl', c1, hkA, hkB]
            generalize HS1 ++ [(⟨[.int .i64 b.a, .int .i64 b.b, .int .i64 b.c], true, true⟩ : Blk)] = HS2 at *
            refine andK_intro hkC ?_
            replace hv4 := hv4.pre hs2
            have hleE := (((((List.prefix_refl H').trans hs0).trans hs1).trans hs2)).length_le
            have hc : cellsAt HS2 HS1.length 0 3 = some [.int .i64 b.a, .int .i64 b.b, .int .i64 b.c] := by simpa using hcN.cells (n := 3) (o := 0) (by simp)
            obtain ⟨v6, H6, hap, he6, hk6, hl6⟩ := hv4.append (m := 1) (news := [.int .i64 b.a, .int .i64 b.b, .int .i64 b.c]) (by omega) (by omega) rfl
            obtain ⟨a6, rfl⟩ := he6.shape
            have hp6 : H' <+: H6 := KeepL.prefix (((((List.prefix_refl H').trans hs0).trans hs1).trans hs2)) (Nat.le_refl _) hk6 (by omega)
            have hk6' : KeepL H'.length HS2 H6 := hk6
            have et : tri now ++ [.int .i64 b.a, .int .i64 b.b, .int .i64 b.c] = tri (now ++ [b]) := by rw [tri_append]; rfl
            rw [et] at he6
            obtain ⟨w6, hup6, hw6⟩ := (show OE 3 _ H6 _ (tri (now ++ [b])) (now ++ [b]).length by rw [List.length_append]; exact he6).blocks (by simp; omega)
            simp (maxSteps := 1000000) [go_sem, undef, hlt', hlt2, hw1, hw2, hwk, hsl, hsl', c1, hkA, hkB, hkC, hc, hap, hk6']
            refine andK_intro (by omega) ?_
            have hpp := hp.trans hp6
            have hle6 := hp6.length_le
            refine ACalls.up (args' := [lv 3 i o list.length, w6, .int .i64 ((g + 1 : Nat) : Int), .int .i64 (k : Nat)]) ⟨Up.refl _ _, hup6, by simpa using Up.refl _ _, Up.refl _ _, trivial⟩ ?_
            obtain ⟨i6, ⟨ew6, hb6, hn6⟩, hs6⟩ := hw6
            have hat6 : At H6 i6 0 (tri (now ++ [b])) := by
              rcases hb6 with e | e
              · left; rw [e]; rfl
              · exact Holds.at ⟨true, e⟩
            refine ih (list := list) (now := now ++ [b]) (L := H'.length) (fr := g + 1) ⟨i, o, rfl, h1.pre hpp, h2⟩ ⟨i6, 0, ew6, hat6, hn6, fun hne => (hs6 hne).1⟩ hle6 (by omega) (by simp; omega) hll (by omega) _ ?_
            intro H7 cid crows hp7 hcid hcol hcs hcr
            have hple7 := hp7.length_le
            have hol7 : OL 1 H7 oid (rows.map (·.1)) rows.length := hol.keep (S := fun _ => False) (Same.of_prefix (hp6.trans hp7)) (fun h => h)
            have holt := hol.lt
            have hsrcC : srcCells H7 1 (lv 1 cid 0 crows.length) = some (crows.map (·.1)) := hcol.at.src (by rw [List.length_map, Nat.mul_one]) (by omega) _
            simp only [srcCells, List.length_eq_zero_iff] at hsrcC
            have hcb := subs_len k (list.drop (g + 1)) (now ++ [b])
            rw [<- hcs, List.length_map] at hcb
            have hb12 : ∀ m, m <= 12 -> 2 ^ m <= 4096 := fun m hm => Nat.le_trans (Nat.pow_le_pow_right (by omega) hm) (by decide)
            have hcb2 := hb12 (list.drop (g + 1)).length (by rw [List.length_drop]; omega)
            have hrows2 : (rows ++ crows).map (·.2) = ((List.range (s + 1)).flatMap fun j => subs k ((list.drop fr).drop (j + 1)) (now ++ ((list.drop fr)[j]?).toList)) := by
              rw [List.range_succ, List.flatMap_append, List.map_append, hrows, hcs]
              simp only [List.flatMap_cons, List.flatMap_nil, List.append_nil, hres, Option.toList, List.drop_drop, hg2]
            have hrcnt : rows.length <= 4096 := by
              have := congrArg List.length hrows
              rw [List.length_map] at this
              rw [this]; exact Nat.le_trans (subs_pre k (list.drop fr) now s (by rw [List.length_drop]; omega)) (hb12 _ (by rw [List.length_drop]; omega))
            have oldr : ∀ {H8 : Heap} {oid8 : Nat}, Same (fun j => j = oid) H7 H8 -> H7.length <= oid8 -> ∀ r ∈ rows, RowIn H8 L oid8 r.1 r.2 := by
              intro H8 oid8 hs8 ho8 r hr
              obtain ⟨x, y, e1, e2, e3, e4⟩ := hrd r hr
              refine ⟨x, y, e1, At.keepS hs8 (e2.pre (hp6.trans hp7)) (fun hne => ?_), e3, fun hne => ?_⟩
              · have hne' : r.2 ≠ [] := by intro e; rw [e] at hne; exact hne rfl
                exact (e4 hne').2.2
              · have := e4 hne
                exact ⟨this.1, by have := hs8.1; omega, by omega⟩
            have newr : ∀ {H8 : Heap} {oid8 : Nat}, Same (fun j => j = oid) H7 H8 -> H7.length <= oid8 -> ∀ r ∈ crows, RowIn H8 L oid8 r.1 r.2 := by
              intro H8 oid8 hs8 ho8 r hr
              obtain ⟨x, y, e1, e2, e3, e4⟩ := hcr r hr
              refine ⟨x, y, e1, At.keepS hs8 e2 (fun hne => ?_), e3, fun hne => ?_⟩
              · have hne' : r.2 ≠ [] := by intro e; rw [e] at hne; exact hne rfl
                have := (e4 hne').1
                omega
              · have := e4 hne
                exact ⟨by omega, by have := hs8.1; omega, by omega⟩
            by_cases hm : crows = []
            · subst hm
              have hz : appendH H7 1 (lv 1 oid 0 rows.length) 0 [] = some (lv 1 oid 0 rows.length, H7) := by simp [appendH]
              simp only [List.append_nil] at hrows2
              simp (maxSteps := 1000000) [go_sem, undef, KeepL.of_prefix hp7, hz, hw1, hw2, hwi]
              refine andK_intro (by omega) (hK (s + 1, oid, rows) _ _ (by simp only; omega) (by simp [upF, Fr.get, Up.refl, hg2]) ⟨by simp only; omega, hpp.trans hp7, hoid, hol7, hrows2, fun r hr => ?_⟩)
              obtain ⟨x, y, e1, e2, e3, e4⟩ := hrd r hr
              exact ⟨x, y, e1, e2.pre (hp6.trans hp7), e3, fun hne => ⟨(e4 hne).1, by have := (e4 hne).2.1; omega, (e4 hne).2.2⟩⟩
            · have hm0 : 0 < crows.length := List.length_pos_iff.2 hm
              obtain ⟨H8, hap8, hol8, hsame8, hlen8⟩ := hol7.append (m := crows.length) (by omega) hm0 (news := crows.map (·.1)) (by simp)
              rw [<- List.map_append, <- List.length_append] at hol8
              have hp8 : H <+: H8 := ((Same.of_prefix (hpp.trans hp7)).trans hsame8).prefix (by intro j hj e; omega)
              have hcc : cellsAt H7 cid 0 crows.length = some (crows.map (·.1)) := by
                have := hsrcC
                simp only [hm, if_false, Nat.mul_one] at this
                exact this
              simp (maxSteps := 1000000) [go_sem, undef, KeepL.of_prefix hp7, hcc, hm, hap8, hw1, hw2, hwi]
              refine andK_intro (by omega) (hK (s + 1, H7.length, rows ++ crows) _ _ (by simp only; omega) (by simp [upF, Fr.get, Up.refl, hg2]) ⟨by simp only; omega, hp8, by simp only; omega, hol8, hrows2, fun r hr => ?_⟩)
              rcases List.mem_append.1 hr with hr | hr
              · exact oldr hsame8 (Nat.le_refl _) r hr
              · exact newr hsame8 (Nat.le_refl _) r hr
          · have hs1 : HS0 <+: HS0 ++ [⟨[.int .i64 b.a, .int .i64 b.b, .int .i64 b.c], true, true⟩] := List.prefix_append _ _
            have hkB : KeepL H'.length HS0 (HS0 ++ [⟨[.int .i64 b.a, .int .i64 b.b, .int .i64 b.c], true, true⟩]) := KeepL.of_prefix hs1 (by omega)
            have hcN := Holds.last HS0 [.int .i64 b.a, .int .i64 b.b, .int .i64 b.c]
            have hlY1 : (HS0 ++ [(⟨[.int .i64 b.a, .int .i64 b.b, .int .i64 b.c], true, true⟩ : Blk)]).length = HS0.length + 1 := by simp
            try simp (maxSteps := 1000000) [go_sem, undef, hlt', hlt2, hw1, hw2, hwk, hsl, hsl', c1, hkA]
            generalize HS0 ++ [(⟨[.int .i64 b.a, .int .i64 b.b, .int .i64 b.c], true, true⟩ : Blk)] = HS1 at *
            refine andK_intro hkB ?_
            replace hbE := pget hs1 hbE
            have hleX2 := ((((List.prefix_refl H').trans hs0).trans hs1)).length_le
            obtain ⟨v4, HS2, hapP, hv4, hs2⟩ := emptyAppend (L := H'.length) (e := 3) (m := now.length) (news := tri now) (by omega) hbE (by omega) (by rw [tri_length])
            obtain ⟨a4, rfl⟩ := hv4.shape
            have hkC : KeepL H'.length HS1 HS2 := KeepL.of_prefix hs2 (by omega)
            have hsrc := tri_src ((hnow.pre hp).pre (((List.prefix_refl H').trans hs0).trans hs1))
            simp only [srcCells, List.length_eq_zero_iff] at hsrc
            simp (maxSteps := 1000000) [go_sem, undef, hlt', hlt2, hw1, hw2, hwk, hsl, hsl', c1, hkA, hkB, hkC, hsrc, hapP]
            refine andK_intro (by omega) ?_
            replace hcN := hcN.pre hs2
            have hleE := (((((List.prefix_refl H').trans hs0).trans hs1).trans hs2)).length_le
            have hc : cellsAt HS2 HS0.length 0 3 = some [.int .i64 b.a, .int .i64 b.b, .int .i64 b.c] := by simpa using hcN.cells (n := 3) (o := 0) (by simp)
            obtain ⟨v6, H6, hap, he6, hk6, hl6⟩ := hv4.append (m := 1) (news := [.int .i64 b.a, .int .i64 b.b, .int .i64 b.c]) (by omega) (by omega) rfl
            obtain ⟨a6, rfl⟩ := he6.shape
            have hp6 : H' <+: H6 := KeepL.prefix (((((List.prefix_refl H').trans hs0).trans hs1).trans hs2)) (Nat.le_refl _) hk6 (by omega)
            have hk6' : KeepL H'.length HS2 H6 := hk6
            have et : tri now ++ [.int .i64 b.a, .int .i64 b.b, .int .i64 b.c] = tri (now ++ [b]) := by rw [tri_append]; rfl
            rw [et] at he6
            obtain ⟨w6, hup6, hw6⟩ := (show OE 3 _ H6 _ (tri (now ++ [b])) (now ++ [b]).length by rw [List.length_append]; exact he6).blocks (by simp; omega)
            simp (maxSteps := 1000000) [go_sem, undef, hlt', hlt2, hw1, hw2, hwk, hsl, hsl', c1, hkA, hkB, hkC, hc, hap, hk6']
            refine andK_intro (by omega) ?_
            have hpp := hp.trans hp6
            have hle6 := hp6.length_le
            refine ACalls.up (args' := [lv 3 i o list.length, w6, .int .i64 ((g + 1 : Nat) : Int), .int .i64 (k : Nat)]) ⟨Up.refl _ _, hup6, by simpa using Up.refl _ _, Up.refl _ _, trivial⟩ ?_
            obtain ⟨i6, ⟨ew6, hb6, hn6⟩, hs6⟩ := hw6
            have hat6 : At H6 i6 0 (tri (now ++ [b])) := by
              rcases hb6 with e | e
              · left; rw [e]; rfl
              · exact Holds.at ⟨true, e⟩
            refine ih (list := list) (now := now ++ [b]) (L := H'.length) (fr := g + 1) ⟨i, o, rfl, h1.pre hpp, h2⟩ ⟨i6, 0, ew6, hat6, hn6, fun hne => (hs6 hne).1⟩ hle6 (by omega) (by simp; omega) hll (by omega) _ ?_
            intro H7 cid crows hp7 hcid hcol hcs hcr
            have hple7 := hp7.length_le
            have hol7 : OL 1 H7 oid (rows.map (·.1)) rows.length := hol.keep (S := fun _ => False) (Same.of_prefix (hp6.trans hp7)) (fun h => h)
            have holt := hol.lt
            have hsrcC : srcCells H7 1 (lv 1 cid 0 crows.length) = some (crows.map (·.1)) := hcol.at.src (by rw [List.length_map, Nat.mul_one]) (by omega) _
            simp only [srcCells, List.length_eq_zero_iff] at hsrcC
            have hcb := subs_len k (list.drop (g + 1)) (now ++ [b])
            rw [<- hcs, List.length_map] at hcb
            have hb12 : ∀ m, m <= 12 -> 2 ^ m <= 4096 := fun m hm => Nat.le_trans (Nat.pow_le_pow_right (by omega) hm) (by decide)
            have hcb2 := hb12 (list.drop (g + 1)).length (by rw [List.length_drop]; omega)
            have hrows2 : (rows ++ crows).map (·.2) = ((List.range (s + 1)).flatMap fun j => subs k ((list.drop fr).drop (j + 1)) (now ++ ((list.drop fr)[j]?).toList)) := by
              rw [List.range_succ, List.flatMap_append, List.map_append, hrows, hcs]
              simp only [List.flatMap_cons, List.flatMap_nil, List.append_nil, hres, Option.toList, List.drop_drop, hg2]
            have hrcnt : rows.length <= 4096 := by
              have := congrArg List.length hrows
              rw [List.length_map] at this
              rw [this]; exact Nat.le_trans (subs_pre k (list.drop fr) now s (by rw [List.length_drop]; omega)) (hb12 _ (by rw [List.length_drop]; omega))
            have oldr : ∀ {H8 : Heap} {oid8 : Nat}, Same (fun j => j = oid) H7 H8 -> H7.length <= oid8 -> ∀ r ∈ rows, RowIn H8 L oid8 r.1 r.2 := by
              intro H8 oid8 hs8 ho8 r hr
              obtain ⟨x, y, e1, e2, e3, e4⟩ := hrd r hr
              refine ⟨x, y, e1, At.keepS hs8 (e2.pre (hp6.trans hp7)) (fun hne => ?_), e3, fun hne => ?_⟩
              · have hne' : r.2 ≠ [] := by intro e; rw [e] at hne; exact hne rfl
                exact (e4 hne').2.2
              · have := e4 hne
                exact ⟨this.1, by have := hs8.1; omega, by omega⟩
            have newr : ∀ {H8 : Heap} {oid8 : Nat}, Same (fun j => j = oid) H7 H8 -> H7.length <= oid8 -> ∀ r ∈ crows, RowIn H8 L oid8 r.1 r.2 := by
              intro H8 oid8 hs8 ho8 r hr
              obtain ⟨x, y, e1, e2, e3, e4⟩ := hcr r hr
              refine ⟨x, y, e1, At.keepS hs8 e2 (fun hne => ?_), e3, fun hne => ?_⟩
              · have hne' : r.2 ≠ [] := by intro e; rw [e] at hne; exact hne rfl
                have := (e4 hne').1
                omega
              · have := e4 hne
                exact ⟨by omega, by have := hs8.1; omega, by omega⟩
            by_cases hm : crows = []
            · subst hm
              have hz : appendH H7 1 (lv 1 oid 0 rows.length) 0 [] = some (lv 1 oid 0 rows.length, H7) := by simp [appendH]
              simp only [List.append_nil] at hrows2
              simp (maxSteps := 1000000) [go_sem, undef, KeepL.of_prefix hp7, hz, hw1, hw2, hwi]
              refine andK_intro (by omega) (hK (s + 1, oid, rows) _ _ (by simp only; omega) (by simp [upF, Fr.get, Up.refl, hg2]) ⟨by simp only; omega, hpp.trans hp7, hoid, hol7, hrows2, fun r hr => ?_⟩)
              obtain ⟨x, y, e1, e2, e3, e4⟩ := hrd r hr
              exact ⟨x, y, e1, e2.pre (hp6.trans hp7), e3, fun hne => ⟨(e4 hne).1, by have := (e4 hne).2.1; omega, (e4 hne).2.2⟩⟩
            · have hm0 : 0 < crows.length := List.length_pos_iff.2 hm
              obtain ⟨H8, hap8, hol8, hsame8, hlen8⟩ := hol7.append (m := crows.length) (by omega) hm0 (news := crows.map (·.1)) (by simp)
              rw [<- List.map_append, <- List.length_append] at hol8
              have hp8 : H <+: H8 := ((Same.of_prefix (hpp.trans hp7)).trans hsame8).prefix (by intro j hj e; omega)
              have hcc : cellsAt H7 cid 0 crows.length = some (crows.map (·.1)) := by
                have := hsrcC
                simp only [hm, if_false, Nat.mul_one] at this
                exact this
              simp (maxSteps := 1000000) [go_sem, undef, KeepL.of_prefix hp7, hcc, hm, hap8, hw1, hw2, hwi]
              refine andK_intro (by omega) (hK (s + 1, H7.length, rows ++ crows) _ _ (by simp only; omega) (by simp [upF, Fr.get, Up.refl, hg2]) ⟨by simp only; omega, hp8, by simp only; omega, hol8, hrows2, fun r hr => ?_⟩)
              rcases List.mem_append.1 hr with hr | hr
              · exact oldr hsame8 (Nat.le_refl _) r hr
              · exact newr hsame8 (Nat.le_refl _) r hr
        · have hleX0 := ((List.prefix_refl H')).length_le
          have hs0 : H' <+: H' ++ [⟨[.int .i64 b.a, .int .i64 b.b, .int .i64 b.c], true, true⟩] := List.prefix_append _ _
          have hkA : KeepL H'.length H' (H' ++ [⟨[.int .i64 b.a, .int .i64 b.b, .int .i64 b.c], true, true⟩]) := KeepL.of_prefix hs0 (by omega)
          have hcN := Holds.last H' [.int .i64 b.a, .int .i64 b.b, .int .i64 b.c]
          have hlY0 : (H' ++ [(⟨[.int .i64 b.a, .int .i64 b.b, .int .i64 b.c], true, true⟩ : Blk)]).length = H'.length + 1 := by simp
          try simp (maxSteps := 1000000) [go_sem, undef, hlt', hlt2, hw1, hw2, hwk, hsl, hsl', c1]
          rw [show H' ++ [(⟨[.int .i64 b.a, .int .i64 b.b, .int .i64 b.c], true, true⟩ : Blk), ⟨[], true, true⟩] = (H' ++ [⟨[.int .i64 b.a, .int .i64 b.b, .int .i64 b.c], true, true⟩]) ++ [⟨[], true, true⟩] by simp]
          generalize H' ++ [(⟨[.int .i64 b.a, .int .i64 b.b, .int .i64 b.c], true, true⟩ : Blk)] = HS0 at *
          refine andK_intro hkA ?_
          have hleX1 := (((List.prefix_refl H').trans hs0)).length_le
          have hs1 : HS0 <+: HS0 ++ [⟨[], true, true⟩] := List.prefix_append _ _
          have hkB : KeepL H'.length HS0 (HS0 ++ [⟨[], true, true⟩]) := KeepL.of_prefix hs1 (by omega)
          have hbE : (HS0 ++ [(⟨[], true, true⟩ : Blk)])[HS0.length]? = some ⟨[], true, true⟩ := by simp
          have hlY1 : (HS0 ++ [(⟨[], true, true⟩ : Blk)]).length = HS0.length + 1 := by simp
          try simp (maxSteps := 1000000) [go_sem, undef, hlt', hlt2, hw1, hw2, hwk, hsl, hsl', c1, hkA]
          generalize HS0 ++ [(⟨[], true, true⟩ : Blk)] = HS1 at *
          refine andK_intro hkB ?_
          rw [hlY0] at hbE
          replace hcN := hcN.pre hs1
          have hleX2 := ((((List.prefix_refl H').trans hs0).trans hs1)).length_le
          obtain ⟨v4, HS2, hapP, hv4, hs2⟩ := emptyAppend (L := H'.length) (e := 3) (m := now.length) (news := tri now) (by omega) hbE (by omega) (by rw [tri_length])
          obtain ⟨a4, rfl⟩ := hv4.shape
          have hkC : KeepL H'.length HS1 HS2 := KeepL.of_prefix hs2 (by omega)
          have hsrc := tri_src ((hnow.pre hp).pre (((List.prefix_refl H').trans hs0).trans hs1))
          simp only [srcCells, List.length_eq_zero_iff] at hsrc
          simp (maxSteps := 1000000) [go_sem, undef, hlt', hlt2, hw1, hw2, hwk, hsl, hsl', c1, hkA, hkB, hkC, hsrc, hapP]
          refine andK_intro (by omega) ?_
          replace hcN := hcN.pre hs2
          have hleE := (((((List.prefix_refl H').trans hs0).trans hs1).trans hs2)).length_le
          have hc : cellsAt HS2 H'.length 0 3 = some [.int .i64 b.a, .int .i64 b.b, .int .i64 b.c] := by simpa using hcN.cells (n := 3) (o := 0) (by simp)
          obtain ⟨v6, H6, hap, he6, hk6, hl6⟩ := hv4.append (m := 1) (news := [.int .i64 b.a, .int .i64 b.b, .int .i64 b.c]) (by omega) (by omega) rfl
          obtain ⟨a6, rfl⟩ := he6.shape
          have hp6 : H' <+: H6 := KeepL.prefix (((((List.prefix_refl H').trans hs0).trans hs1).trans hs2)) (Nat.le_refl _) hk6 (by omega)
          have hk6' : KeepL H'.length HS2 H6 := hk6
          have et : tri now ++ [.int .i64 b.a, .int .i64 b.b, .int .i64 b.c] = tri (now ++ [b]) := by rw [tri_append]; rfl
          rw [et] at he6
          obtain ⟨w6, hup6, hw6⟩ := (show OE 3 _ H6 _ (tri (now ++ [b])) (now ++ [b]).length by rw [List.length_append]; exact he6).blocks (by simp; omega)
          simp (maxSteps := 1000000) [go_sem, undef, hlt', hlt2, hw1, hw2, hwk, hsl, hsl', c1, hkA, hkB, hkC, hc, hap, hk6']
          refine andK_intro (by omega) ?_
          have hpp := hp.trans hp6
          have hle6 := hp6.length_le
          refine ACalls.up (args' := [lv 3 i o list.length, w6, .int .i64 ((g + 1 : Nat) : Int), .int .i64 (k : Nat)]) ⟨Up.refl _ _, hup6, by simpa using Up.refl _ _, Up.refl _ _, trivial⟩ ?_
          obtain ⟨i6, ⟨ew6, hb6, hn6⟩, hs6⟩ := hw6
          have hat6 : At H6 i6 0 (tri (now ++ [b])) := by
            rcases hb6 with e | e
            · left; rw [e]; rfl
            · exact Holds.at ⟨true, e⟩
          refine ih (list := list) (now := now ++ [b]) (L := H'.length) (fr := g + 1) ⟨i, o, rfl, h1.pre hpp, h2⟩ ⟨i6, 0, ew6, hat6, hn6, fun hne => (hs6 hne).1⟩ hle6 (by omega) (by simp; omega) hll (by omega) _ ?_
          intro H7 cid crows hp7 hcid hcol hcs hcr
          have hple7 := hp7.length_le
          have hol7 : OL 1 H7 oid (rows.map (·.1)) rows.length := hol.keep (S := fun _ => False) (Same.of_prefix (hp6.trans hp7)) (fun h => h)
          have holt := hol.lt
          have hsrcC : srcCells H7 1 (lv 1 cid 0 crows.length) = some (crows.map (·.1)) := hcol.at.src (by rw [List.length_map, Nat.mul_one]) (by omega) _
          simp only [srcCells, List.length_eq_zero_iff] at hsrcC
          have hcb := subs_len k (list.drop (g + 1)) (now ++ [b])
          rw [<- hcs, List.length_map] at hcb
          have hb12 : ∀ m, m <= 12 -> 2 ^ m <= 4096 := fun m hm => Nat.le_trans (Nat.pow_le_pow_right (by omega) hm) (by decide)
          have hcb2 := hb12 (list.drop (g + 1)).length (by rw [List.length_drop]; omega)
          have hrows2 : (rows ++ crows).map (·.2) = ((List.range (s + 1)).flatMap fun j => subs k ((list.drop fr).drop (j + 1)) (now ++ ((list.drop fr)[j]?).toList)) := by
            rw [List.range_succ, List.flatMap_append, List.map_append, hrows, hcs]
            simp only [List.flatMap_cons, List.flatMap_nil, List.append_nil, hres, Option.toList, List.drop_drop, hg2]
          have hrcnt : rows.length <= 4096 := by
            have := congrArg List.length hrows
            rw [List.length_map] at this
            rw [this]; exact Nat.le_trans (subs_pre k (list.drop fr) now s (by rw [List.length_drop]; omega)) (hb12 _ (by rw [List.length_drop]; omega))
          have oldr : ∀ {H8 : Heap} {oid8 : Nat}, Same (fun j => j = oid) H7 H8 -> H7.length <= oid8 -> ∀ r ∈ rows, RowIn H8 L oid8 r.1 r.2 := by
            intro H8 oid8 hs8 ho8 r hr
            obtain ⟨x, y, e1, e2, e3, e4⟩ := hrd r hr
            refine ⟨x, y, e1, At.keepS hs8 (e2.pre (hp6.trans hp7)) (fun hne => ?_), e3, fun hne => ?_⟩
            · have hne' : r.2 ≠ [] := by intro e; rw [e] at hne; exact hne rfl
              exact (e4 hne').2.2
            · have := e4 hne
              exact ⟨this.1, by have := hs8.1; omega, by omega⟩
          have newr : ∀ {H8 : Heap} {oid8 : Nat}, Same (fun j => j = oid) H7 H8 -> H7.length <= oid8 -> ∀ r ∈ crows, RowIn H8 L oid8 r.1 r.2 := by
            intro H8 oid8 hs8 ho8 r hr
            obtain ⟨x, y, e1, e2, e3, e4⟩ := hcr r hr
            refine ⟨x, y, e1, At.keepS hs8 e2 (fun hne => ?_), e3, fun hne => ?_⟩
            · have hne' : r.2 ≠ [] := by intro e; rw [e] at hne; exact hne rfl
              have := (e4 hne').1
              omega
            · have := e4 hne
              exact ⟨by omega, by have := hs8.1; omega, by omega⟩
          by_cases hm : crows = []
          · subst hm
            have hz : appendH H7 1 (lv 1 oid 0 rows.length) 0 [] = some (lv 1 oid 0 rows.length, H7) := by simp [appendH]
            simp only [List.append_nil] at hrows2
            simp (maxSteps := 1000000) [go_sem, undef, KeepL.of_prefix hp7, hz, hw1, hw2, hwi]
            refine andK_intro (by omega) (hK (s + 1, oid, rows) _ _ (by simp only; omega) (by simp [upF, Fr.get, Up.refl, hg2]) ⟨by simp only; omega, hpp.trans hp7, hoid, hol7, hrows2, fun r hr => ?_⟩)
            obtain ⟨x, y, e1, e2, e3, e4⟩ := hrd r hr
            exact ⟨x, y, e1, e2.pre (hp6.trans hp7), e3, fun hne => ⟨(e4 hne).1, by have := (e4 hne).2.1; omega, (e4 hne).2.2⟩⟩
          · have hm0 : 0 < crows.length := List.length_pos_iff.2 hm
            obtain ⟨H8, hap8, hol8, hsame8, hlen8⟩ := hol7.append (m := crows.length) (by omega) hm0 (news := crows.map (·.1)) (by simp)
            rw [<- List.map_append, <- List.length_append] at hol8
            have hp8 : H <+: H8 := ((Same.of_prefix (hpp.trans hp7)).trans hsame8).prefix (by intro j hj e; omega)
            have hcc : cellsAt H7 cid 0 crows.length = some (crows.map (·.1)) := by
              have := hsrcC
              simp only [hm, if_false, Nat.mul_one] at this
              exact this
            simp (maxSteps := 1000000) [go_sem, undef, KeepL.of_prefix hp7, hcc, hm, hap8, hw1, hw2, hwi]
            refine andK_intro (by omega) (hK (s + 1, H7.length, rows ++ crows) _ _ (by simp only; omega) (by simp [upF, Fr.get, Up.refl, hg2]) ⟨by simp only; omega, hp8, by simp only; omega, hol8, hrows2, fun r hr => ?_⟩)
            rcases List.mem_append.1 hr with hr | hr
            · exact oldr hsame8 (Nat.le_refl _) r hr
            · exact newr hsame8 (Nat.le_refl _) r hr
      · have : s = list.length - fr - k := by omega
        subst this
        have hlt' : ¬ ((g : Int) + ((k : Int) + 1) <= list.length) := by omega
        have hlt2 : ¬ (g + (k + 1) <= list.length) := by omega
        have fin := h H' oid rows hp hoid hol (by rw [hrows]; simp only [subs, List.length_drop]) hrd
        simp (maxSteps := 1000000) [go_sem, hw1, hlt', hlt2]
        exact ⟨_, Up.refl _ _, fin⟩

end Go.Proofs.YtkimaohcmcfcnaaGreat
end

section
namespace Go.Proofs.YtkimaohcmcfcnaaGreat
open Go.Ab Go.Sort

theorem find_at {α : Type} {l : List α} {p : α -> Bool} {t : Nat} (ht : t < l.length) (hb : ∀ j (hj : j < l.length), j < t -> p l[j] = false) (h : p l[t] = true) : l.find? p = some l[t] := by
  rw [List.find?_eq_some_iff_getElem]
  exact ⟨h, t, ht, rfl, fun j hj => by simp [hb j (by omega) hj]⟩
theorem sub_sorted {p : Int} {x s : List Bk} (h : IsSys p x) (hs : s.Sublist x) : sortB s = s := by
  have hp : x.Pairwise (fun a b => before b a = false) := by have := sortB_sorted _ x rfl; rwa [sys_sort h] at this
  exact (sort_uniq (List.Perm.refl _) (hp.sublist hs)).symm

theorem l04Part_ok {H : Heap} {u w : Value} {p q : Int} {o i : List Bk} (hu : BlocksAt H u o) (hw : BlocksAt H w i) (hS : IsSys q o) (hT : IsSys q i) (hl : o.length <= 12) (Post : Value -> Heap -> Prop)
    (h : ∀ H' a b, H <+: H' -> BlocksAt H' a (partP o i).1 -> BlocksAt H' b (partP o i).2 -> Post (tradeV p a b) H') : ACalls Tryz.prog 19 [tradeV p u w] H Post := by
  have ou := hu.one
  have ow := hw.one
  have hi35 := hT.2.1
  refine acalls_vc (rs := [.cell 2 26]) Tryz.func19 rfl rfl Tryz.ntmps19 rfl rfl ?_
  simp (maxSteps := 1000000) [go_sem, tradeV, ou, ow]
  have hp0 : H <+: H ++ [⟨[.int .i64 p, u, w], true, true⟩, ⟨[.int .i64 0, .slice none 0 0, .slice none 0 0], true, true⟩] := List.prefix_append _ _
  have hx0 : Holds (H ++ [(⟨[.int .i64 p, u, w], true, true⟩ : Blk), ⟨[.int .i64 0, .slice none 0 0, .slice none 0 0], true, true⟩]) H.length [.int .i64 p, u, w] := ⟨true, by simp⟩
  have hb0 : (H ++ [(⟨[.int .i64 p, u, w], true, true⟩ : Blk), ⟨[.int .i64 0, .slice none 0 0, .slice none 0 0], true, true⟩])[H.length + 1]? = some ⟨[.int .i64 0, .slice none 0 0, .slice none 0 0], true, true⟩ := by simp
  have hlen : (H ++ [(⟨[.int .i64 p, u, w], true, true⟩ : Blk), ⟨[.int .i64 0, .slice none 0 0, .slice none 0 0], true, true⟩]).length = H.length + 2 := by simp
  generalize H ++ [(⟨[.int .i64 p, u, w], true, true⟩ : Blk), ⟨[.int .i64 0, .slice none 0 0, .slice none 0 0], true, true⟩] = H0 at hp0 hx0 hb0 hlen ⊢
  obtain ⟨uj, uq, eu, hu1, hu2⟩ : ∃ j q, u = lv 3 j q o.length /\ At H j q (tri o) /\ o.length <= 140737488355328 := hu
  subst eu
  have hu : BlocksAt H (lv 3 uj uq o.length) o := ⟨uj, uq, rfl, hu1, hu2⟩
  refine AWp.loopVc (St := Nat) (fun s => [(1, .pointer (some ⟨H.length, 0, none⟩)), (2, .pointer (some ⟨H.length + 1, 0, none⟩)), (3, .int .i64 ((s : Int) + 1))])
    (fun s H' => s <= o.length /\ H0 <+: H' /\ ∀ k, k < s -> findP i (k + 1) o [] = none) (fun s => o.length - s) 0 ?_ ?_ ?_
  · simp [upF, Fr.get, Up.refl]
  · exact ⟨by omega, List.prefix_refl _, fun k hk => by omega⟩
  · rintro K s H' ⟨hs, hp, hbef⟩ hK
    obtain ⟨d0, d1, d2, d3⟩ := (hx0.pre hp).tr
    by_cases hlt : s + 1 < o.length
    · have hlt' : (s : Int) + 1 < o.length := by omega
      have ws : IntKind.i64.wrap ((s : Int) + 1 + 1) = (s : Int) + 1 + 1 := i64w (by omega) (by omega)
      simp (maxSteps := 1000000) [go_sem, hlt, hlt', d0, d1, d2, d3]
      have hpE : H' <+: H' ++ [⟨[], true, true⟩] := List.prefix_append _ _
      generalize H' ++ [(⟨[], true, true⟩ : Blk)] = HE at hpE ⊢
      have hpE0 := hp.trans hpE
      have hleE := hpE.length_le
      refine ACalls.up (args' := [lv 3 uj uq o.length, lv 3 H'.length 0 0, .int .i64 ((0 : Nat) : Int), .int .i64 ((s + 1 : Nat) : Int)]) ⟨Up.refl _ _, Up.ex0 _ _ _ _ _ _, by simpa using Up.refl _ _, by simpa using Up.refl _ _, trivial⟩ ?_
      refine subsets_ok (s + 1) (list := o) (now := []) (L := H'.length) (fr := 0) (hu.pre (hp0.trans hpE0)) ⟨H'.length, 0, rfl, .inl rfl, by simp, fun h => absurd rfl h⟩ hleE (by omega) (by simp; omega) hl (by omega) _ ?_
      intro H2 rid rows hp2 hrid hrol hrs hrr
      rw [List.drop_zero] at hrs
      have hp02 := hpE0.trans hp2
      have hrl : rows.length = (subs (s + 1) o []).length := by rw [<- hrs, List.length_map]
      have hrb : rows.length <= 4096 := by
        rw [hrl]; exact Nat.le_trans (subs_len _ _ _) (Nat.le_trans (Nat.pow_le_pow_right (by omega) hl) (by decide))
      simp (maxSteps := 1000000) [go_sem]
      refine AWp.loopVc (St := Nat) (fun t => [(1, .pointer (some ⟨H.length, 0, none⟩)), (2, .pointer (some ⟨H.length + 1, 0, none⟩)), (3, .int .i64 ((s : Int) + 1)), (4, lv 1 rid 0 rows.length), (5, .int .i64 t)])
        (fun t H3 => t <= rows.length /\ H2 <+: H3 /\ ∀ j (hj : j < (subs (s + 1) o []).length), j < t -> okS i (subs (s + 1) o [])[j] = false) (fun t => rows.length - t) 0 ?_ ?_ ?_
      · simp [upF, Fr.get, Up.refl]
      · exact ⟨by omega, List.prefix_refl _, fun j hj h => by omega⟩
      · rintro K2 t H3 ⟨ht, hp3, hno⟩ hK2
        have hp03 := hp02.trans hp3
        obtain ⟨d0, d1, d2, d3⟩ := (hx0.pre hp03).tr
        by_cases hlt2 : t < rows.length
        · have hw_t : IntKind.i64.wrap ((t : Int) + 1) = (t : Int) + 1 := i64w (by omega) (by omega)
          have hlt2' : (t : Int) < rows.length := by omega
          have hlt3 : t < (subs (s + 1) o []).length := by omega
          have es : (subs (s + 1) o [])[t] = rows[t].2 := by simp only [<- hrs, List.getElem_map]
          obtain ⟨ri, ro, er, hrat, hrlen, _⟩ := hrr _ (List.getElem_mem hlt2)
          have c1 : cellsAt H3 rid t 1 = some [lv 3 ri ro rows[t].2.length] := by
            have := (hrol.at.pre hp3).cell (k := t) (v := rows[t].1) (by simp [hlt2])
            rw [er] at this
            simpa using this
          have hfs := fun (h : okS i (subs (s + 1) o [])[t] = true) => find_at (p := okS i) hlt3 hno h
          obtain ⟨st, hst1, hst2, hst3⟩ := subs_sub (s + 1) o [] _ (List.getElem_mem hlt3)
          rw [es] at hfs hst1
          rw [List.nil_append] at hst1
          have hrs3 : BlocksAt H3 (lv 3 ri ro rows[t].2.length) rows[t].2 := ⟨ri, ro, rfl, hrat.pre hp3, hrlen⟩
          have hno2 : okS i rows[t].2 = false -> ∀ j (hj : j < (subs (s + 1) o []).length), j < t + 1 -> okS i (subs (s + 1) o [])[j] = false := by
            intro he j hj hjt
            by_cases e : j = t
            · subst e; rw [es]; exact he
            · exact hno j hj (by omega)
          generalize rows[t].2 = sx at *
          have hst4 := hst1.symm
          subst hst4
          have hsg : ∀ x ∈ st, good 15 x = true := fun x hx => hS.good15 x (hst2.subset hx)
          simp (maxSteps := 1000000) [go_sem, hlt2]
          refine AWp.draw mixed [(0, false), (1, false), (2, false), (3, false), (4, false), (5, false), (6, false), (7, false)] (by kernel_rfl) ?_
          simp (maxSteps := 1000000) [go_sem, hlt2, hlt2', d0, d1, d2, d3, c1]
          refine l04Inner_ok hrs3 (hw.pre (hp0.trans hp03)) hsg hT.good15 (by omega) (by omega) _ ?_
          intro H4 v4 hp4 hv4
          have hp04 := hp03.trans hp4
          obtain ⟨d0, d1, d2, d3⟩ := (hx0.pre hp04).tr
          have c2 := cellsAt_mono hp4 c1
          have hv4r := hv4.read
          obtain ⟨vj, vq, ev, _, _⟩ : ∃ j q, v4 = lv 3 j q (innerB i st).length /\ At H4 j q (tri (innerB i st)) /\ (innerB i st).length <= 140737488355328 := hv4r
          subst ev
          have eok : okS i st = decide ((innerB i st).length = s + 1) := by unfold okS; rw [hst3]
          have hil : (innerB i st).length <= i.length := innerB_le _ _
          by_cases hin : (innerB i st).length = s + 1
          · have hin' : (((innerB i st).length : Int) == (s : Int) + 1) = true := by rw [hin]; simp
            have hin2 : ((innerB i st).length : Int) = (s : Int) + 1 := by omega
            have ee : partP o i = (st, innerB i st) := by
              unfold partP
              rw [findS_some hbef (hfs (by rw [eok]; exact decide_eq_true hin)) (by omega)]
            simp (maxSteps := 1000000) [go_sem, hin', hin2]
            refine AWp.draw mixed [(0, false), (1, false), (2, false), (3, false), (4, false), (5, false), (6, false), (7, false), (8, false)] (by kernel_rfl) ?_
            simp (maxSteps := 1000000) [go_sem, hlt2, hlt2', d0, d1, d2, d3, c2]
            refine l04Made_ok (hrs3.pre hp4) hv4.read (by have := hst2.length_le; omega) (by omega) _ ?_
            intro H5 a b hp5 hab
            rw [sub_sorted hS hst2, sub_sorted hT (show (innerB i st).Sublist i from List.filter_sublist)] at hab
            obtain ⟨a1, a2⟩ := hab.read.one
            obtain ⟨q1, q2, q3, q4⟩ := put3 (cs := [.int .i64 p, a, b]) hp0 (show H.length <= H.length + 1 by omega) hb0 rfl (hp04.trans hp5) rfl (by simp [a1, a2, one_int])
            have hle04 := hp04.length_le
            have hab2 := hab.keep q4 (fun j hj e => by have := hj.1; omega)
            have fin := h _ a b q3 (by rw [ee]; exact hab2.read.1) (by rw [ee]; exact hab2.read.2)
            simp (maxSteps := 1000000) [go_sem, tradeV, hp5, q1, q2]
            exact fin
          · have hin' : (((innerB i st).length : Int) == (s : Int) + 1) = false := by rw [beq_eq_false_iff_ne]; omega
            have hin2 : ¬ ((innerB i st).length : Int) = (s : Int) + 1 := by omega
            simp (maxSteps := 1000000) [go_sem, hin', hin2, hw_t]
            exact hK2 (t + 1) _ _ (by omega) (by simp [upF, Fr.get, Up.refl]) ⟨by omega, hp3.trans hp4, hno2 (by rw [eok]; exact decide_eq_false hin)⟩
        · have : t = rows.length := by omega
          have fnone : findP i (s + 1) o [] = none := by
            unfold findP
            rw [List.find?_eq_none]
            intro x hx
            obtain ⟨j, hj, rfl⟩ := List.mem_iff_getElem.1 hx
            rw [hno j hj (by omega)]; simp
          have hlt2' : ¬ (t : Int) < rows.length := by omega
          simp (maxSteps := 1000000) [go_sem, hlt2, hlt2', ws]
          refine hK (s + 1) _ _ (by omega) (by simp [upF, Fr.get, Up.refl]) ⟨by omega, hp03, fun k hk => ?_⟩
          by_cases hks : k = s
          · subst hks; exact fnone
          · exact hbef k (by omega)
    · have hlt' : ¬ ((s : Int) + 1 < o.length) := by omega
      have e : partP o i = (o, i) := by
        unfold partP
        rw [findS_none fun k hk => hbef k (by omega)]
      obtain ⟨q1, q2, q3, q4⟩ := put3 (cs := [.int .i64 p, lv 3 uj uq o.length, w]) hp0 (show H.length <= H.length + 1 by omega) hb0 rfl hp rfl (by simp [ow, one_int]; rfl)
      have fin := h _ (lv 3 uj uq o.length) w q3 (by rw [e]; exact hu.pre q3) (by rw [e]; exact hw.pre q3)
      simp (maxSteps := 1000000) [go_sem, hlt, hlt', tradeV, d0, d1, d2, d3, q1, q2]
      exact fin

theorem specIsMinimal_ok {H : Heap} {u w : Value} {p : Int} {o i : List Bk} (ht : TradeAt H u w o i) (hl : o.length <= 1048576 /\ i.length <= 1048576) (Post : Value -> Heap -> Prop)
    (h : ∀ H', H <+: H' -> Post (.tuple #[.bool (rMin p o i).1, .int .i64 (rMin p o i).2]) H') : ACalls Tryz.prog 11 [tradeV p u w] H Post := by
  obtain ⟨ou, ow⟩ := ht.one
  refine acalls_vc (rs := [.tmp 2, .tmp 3]) Tryz.func11 rfl rfl Tryz.ntmps11 rfl rfl ?_
  simp (maxSteps := 1000000) [go_sem, tradeV, ou, ow]
  have hp0 : H <+: H ++ [⟨[.int .i64 p, u, w], true, true⟩] := List.prefix_append _ _
  have hx0 := Holds.last H [.int .i64 p, u, w]
  generalize H ++ [(⟨[.int .i64 p, u, w], true, true⟩ : Blk)] = H0 at hp0 hx0 ⊢
  refine l04Is_ok (ht.1.pre hp0) (ht.2.pre hp0) hl.1 hl.2 _ ?_
  intro H1 hp1
  obtain ⟨d0, d1, d2, d3⟩ := (hx0.pre hp1).tr
  cases hs : tradeB p o i with
  | false =>
    have fin := h H1 (hp0.trans hp1)
    simp only [rMin, hs, Bool.false_eq_true, if_false] at fin
    simp (maxSteps := 1000000) [go_sem]
    exact fin
  | true =>
    obtain ⟨hS1, hS2⟩ := tradeB_sys hs
    have hu1 := ht.1.pre (hp0.trans hp1)
    have hw1 := ht.2.pre (hp0.trans hp1)
    obtain ⟨j, q, rfl, h1, h2⟩ := hu1
    by_cases hlen : o.length <= 12
    · have hlen' : ¬ ((12 : Int) < o.length) := by omega
      have hlen2 : ¬ (12 < o.length) := by omega
      simp (maxSteps := 1000000) [go_sem, d1, d2, d3, hlen', hlen2]
      refine AWp.draw mixed [(0, false), (1, false), (2, false), (3, false), (4, false), (5, false), (9, false), (10, false), (11, false), (6, true), (7, false), (8, false), (12, false), (13, false), (14, false), (15, false)] (by kernel_rfl) ?_
      by_cases h0 : 0 < o.length
      · have h0' : (0 : Int) < o.length := by omega
        have hne : o ≠ [] := by rintro rfl; simp at h0
        simp (maxSteps := 1000000) [go_sem, undef, d0, d1, d2, d3, h0, h0', hne]
        refine l04Part_ok ⟨j, q, rfl, h1, h2⟩ hw1 hS1 hS2 hlen _ ?_
        intro H2 a b hp2 ha hb
        obtain ⟨d0, d1, d2, d3⟩ := (hx0.pre (hp1.trans hp2)).tr
        obtain ⟨ja, qa, rfl, _, _⟩ := ha
        have fin := h H2 (hp0.trans (hp1.trans hp2))
        simp only [rMin, hs, if_true, if_pos hlen] at fin
        generalize (partP o i).1.length = n at *
        have ed : ((n : Int) == (o.length : Int)) = decide (n = o.length) := by
          by_cases e : n = o.length <;> simp [e]; omega
        rw [decide_eq_true h0, Bool.true_and] at fin
        simp (maxSteps := 1000000) [go_sem, undef, partV, tradeV, hp2, d0, d1, d2, d3, h0, h0', hne, ed]
        first | exact fin | (rw [ed]; exact fin)
      · have hne : o = [] := by cases o <;> simp_all
        subst hne
        have fin := h H1 (hp0.trans hp1)
        simp only [rMin, hs, if_true] at fin
        simp (maxSteps := 1000000) [go_sem, undef, d0, d1, d2, d3]
        simpa using fin
    · have hlen' : ((12 : Int) < o.length) := by omega
      have hlen2 : (12 < o.length) := by omega
      have fin := h H1 (hp0.trans hp1)
      simp only [rMin, hs, if_true, if_neg hlen] at fin
      simp (maxSteps := 1000000) [go_sem, d1, d2, d3, hlen', hlen2]
      exact fin

end Go.Proofs.YtkimaohcmcfcnaaGreat
end

section
namespace Go.Proofs.YtkimaohcmcfcnaaGreat
open Go.Ab Go.Sort

def partsF : Nat -> List Bk -> List Bk -> List (List Bk × List Bk)
  | 0, _, _ => []
  | n + 1, o, i => if o.isEmpty then [] else partP o i :: partsF n (lessB o (partP o i).1) (lessB i (partP o i).2)
noncomputable def rParts (p : Int) (o i : List Bk) : List (List Bk × List Bk) × Int :=
  if tradeB p o i then (if o.length <= 12 then (partsF o.length o i, 0) else ([], 3)) else ([], 1)
theorem partsF_nil (n : Nat) (i : List Bk) : partsF n [] i = [] := by cases n <;> rfl
theorem partsF_succ {n : Nat} {o i : List Bk} (h : o ≠ []) : partsF (n + 1) o i = partP o i :: partsF n (lessB o (partP o i).1) (lessB i (partP o i).2) := by
  rw [partsF, if_neg (by simpa using h)]
theorem partP_sub {o i : List Bk} (h : o ≠ []) : (partP o i).1 ≠ [] /\ (partP o i).1.Sublist o /\ (partP o i).2.Sublist i := by
  unfold partP
  split
  · rename_i s hs
    obtain ⟨k, _, hk⟩ := List.exists_of_findSome?_eq_some hs
    obtain ⟨t, e, h2, h3⟩ := subs_sub _ _ _ _ (List.mem_of_find?_eq_some hk)
    rw [List.nil_append] at e
    subst e
    refine ⟨?_, h2, List.filter_sublist⟩
    intro e
    have e : s = [] := e
    rw [e] at h3; simp at h3
  · exact ⟨h, List.Sublist.refl _, List.Sublist.refl _⟩
theorem less_lt {o a : List Bk} (hn : a ≠ []) (hs : a.Sublist o) : (lessB o a).length < o.length := by
  obtain ⟨x, hx⟩ : ∃ x, x ∈ a := by cases a with | nil => exact absurd rfl hn | cons x l => exact ⟨x, by simp⟩
  unfold lessB
  rw [List.length_filter_lt_length_iff_exists]
  exact ⟨x, hs.subset hx, by simp [memB, hx]⟩
theorem less_sub (o a : List Bk) : (lessB o a).Sublist o := List.filter_sublist
theorem sys_sub {p : Int} {x s : List Bk} (h : IsSys p x) (hs : s.Sublist x) : IsSys p s := by
  have ha : Asc x := asc_of _ rfl h.2.2.1
  have hg : ∀ b ∈ x, good p b = true := fun b hb => by
    obtain ⟨i, hi⟩ := List.mem_iff_getElem?.1 hb
    exact (h.2.2.1 i b hi).1
  have hs' : Asc s := List.Pairwise.sublist hs ha
  refine ⟨h.1, Nat.le_trans hs.length_le h.2.1, ?_, Fits.sub h.2.2.2 hs⟩
  intro i b hb
  refine ⟨hg b (hs.subset (List.mem_of_getElem? hb)), fun y hi hy => ?_⟩
  obtain ⟨h1, rfl⟩ := List.getElem?_eq_some_iff.1 hb
  obtain ⟨h2, rfl⟩ := List.getElem?_eq_some_iff.1 hy
  exact List.pairwise_iff_getElem.1 hs' (i - 1) i h2 h1 (by omega)

def NoInts (cs : List Value) : Prop := ∀ (o : Nat) (x y : Int), cs[o]? = some (.int .i64 x) -> cs[o + 1]? = some (.int .i64 y) -> False
theorem BlocksAt.past {H H' : Heap} {v : Value} {bs : List Bk} {k : Nat} (h : BlocksAt H v bs) (hk : ∀ b : Blk, H[k]? = some b -> b.live = true -> NoInts b.cells) (hs : Same (fun j => j = k) H H') : BlocksAt H' v bs := by
  obtain ⟨i, o, rfl, h1, h2⟩ := h
  refine ⟨i, o, rfl, ?_, h2⟩
  cases bs with
  | nil => exact .inl rfl
  | cons b bs =>
    refine atS hs h1 (fun _ e => ?_)
    subst e
    rcases h1 with h1 | h1
    · simp [tri_cons, Bk.cells] at h1
    · obtain ⟨c, hc, hl, hn, e⟩ := cellsAt_inv h1
      have e0 : (tri (b :: bs))[0]? = some (.int .i64 b.a) := by simp [tri_cons, Bk.cells]
      have e1 : (tri (b :: bs))[1]? = some (.int .i64 b.b) := by simp [tri_cons, Bk.cells]
      rw [e, List.getElem?_take, if_pos (by simp [tri_cons, Bk.cells]), List.getElem?_drop] at e0
      rw [e, List.getElem?_take, if_pos (by simp [tri_cons, Bk.cells]), List.getElem?_drop] at e1
      exact hk c hc hl o _ _ (by simpa using e0) (by simpa using e1)
theorem noInts_rows {rows : List Rw} (h : ∀ r ∈ rows, ∃ i n j m, r.u = lv 3 i 0 n /\ r.w = lv 3 j 0 m) : NoInts (cellsT rows) := by
  intro o x y h0 h1
  have hlt := (List.getElem?_eq_some_iff.1 h0).1
  rw [cellsT_len] at hlt
  have hr : rows[o / 3]? = some (rows[o / 3]'(by omega)) := List.getElem?_eq_getElem (by omega)
  obtain ⟨i, n, j, m, hu, hw⟩ := h _ (List.getElem_mem (show o / 3 < rows.length by omega))
  obtain ⟨r, hre⟩ : ∃ r, rows[o / 3]'(by omega) = r := ⟨_, rfl⟩
  rw [hre] at hr hu hw
  have key : o % 3 = 0 \/ o % 3 = 1 \/ o % 3 = 2 := by omega
  rcases key with e | e | e
  · have hh := cellsT_get hr (j := 1) (by omega)
    rw [show o / 3 * 3 + 1 = o + 1 by omega, h1] at hh
    simp [Rw.cells, hu] at hh
  · have hh := cellsT_get hr (j := 1) (by omega)
    rw [show o / 3 * 3 + 1 = o by omega, h0] at hh
    simp [Rw.cells, hu] at hh
  · have hh := cellsT_get hr (j := 2) (by omega)
    rw [show o / 3 * 3 + 2 = o by omega, h0] at hh
    simp [Rw.cells, hw] at hh
theorem BuildT.noInts {H0 H : Heap} {oid : Nat} {rows : List Rw} (h : BuildT H0 H oid rows) : ∀ b : Blk, H[oid]? = some b -> b.live = true -> NoInts b.cells := by
  intro b hb hl
  rcases h.ol.2 with ⟨_, e⟩ | e
  · obtain ⟨c, hc, hc2, _⟩ := ghostAt_inv e
    rw [hb] at hc; cases hc; rw [hl] at hc2; cases hc2
  · rw [hb] at e; cases e
    refine noInts_rows fun r hr => ?_
    obtain ⟨_, _, _, m, _, _, ⟨i, ⟨x1, _, _⟩, _⟩, ⟨j, ⟨x2, _, _⟩, _⟩⟩ := h.spans r hr
    exact ⟨i, _, j, _, x1, x2⟩
theorem BlocksIn.tr {a b c : Nat} {H : Heap} {u w : Value} {o i : List Bk} (h1 : BlocksIn a b H u o) (h2 : BlocksIn b c H w i) (hab : a <= b) (hbc : b <= c) : TradeIn a c H u w o i := ⟨b, hab, hbc, h1, h2⟩

theorem implParts_ok {H : Heap} {u w : Value} {p : Int} {o i : List Bk} (ht : TradeAt H u w o i) (hl : o.length <= 1048576 /\ i.length <= 1048576) (Post : Value -> Heap -> Prop)
    (h : ∀ H' v, H <+: H' -> TrIn H.length H'.length H' v p (rParts p o i).1 -> Post (.tuple #[v, .int .i64 (rParts p o i).2]) H') : ACalls Tryz.prog 6 [tradeV p u w] H Post := by
  obtain ⟨ou, ow⟩ := ht.one
  refine ACalls.res ?_
  refine acalls_vc (rs := [.tmp 2, .tmp 3]) Tryz.func6 rfl rfl Tryz.ntmps6 rfl rfl ?_
  simp (maxSteps := 1000000) [go_sem, tradeV, ou, ow]
  have hp0 : H <+: H ++ [⟨[.int .i64 p, u, w], true, true⟩] := List.prefix_append _ _
  have hx0 := Holds.last H [.int .i64 p, u, w]
  generalize H ++ [(⟨[.int .i64 p, u, w], true, true⟩ : Blk)] = H0 at hp0 hx0 ⊢
  have bad : ∀ H' (c : Int), H <+: H' -> rParts p o i = ([], c) -> ∃ v', Up H' (.tuple #[.slice none 0 0, .int .i64 c]) v' /\ Post v' H' := by
    intro H' c hp hr
    refine ⟨_, Up.tuple (ys := #[lv 3 0 0 0, .int .i64 c]) ⟨Up.nil _ _ _ _, Up.refl _ _, trivial⟩, ?_⟩
    have := h H' (lv 3 0 0 0) hp (by rw [hr]; exact TrIn.nil _ _ _ _)
    rwa [hr] at this
  refine implIsTrade (ht.1.pre hp0) (ht.2.pre hp0) _ ?_
  intro H1 hp1
  obtain ⟨d0, d1, d2, d3⟩ := (hx0.pre hp1).tr
  cases hs : tradeB p o i with
  | false =>
    simp (maxSteps := 1000000) [go_sem]
    exact bad H1 1 (hp0.trans hp1) (by rw [rParts, hs]; rfl)
  | true =>
    obtain ⟨hS1, hS2⟩ := tradeB_sys hs
    have hu1 := ht.1.pre (hp0.trans hp1)
    have hw1 := ht.2.pre (hp0.trans hp1)
    obtain ⟨j, q, rfl, h1, h2⟩ := hu1
    obtain ⟨j', q', rfl, h1', h2'⟩ := hw1
    by_cases hlen : o.length <= 12
    · have hlen' : ¬ ((12 : Int) < o.length) := by omega
      have hlen2 : ¬ (12 < o.length) := by omega
      have hr : rParts p o i = (partsF o.length o i, 0) := by rw [rParts, hs, if_pos rfl, if_pos hlen]
      simp (maxSteps := 1000000) [go_sem, d1, d2, d3, hlen', hlen2]
      refine AWp.draw mixed [(0, false), (1, false), (2, false), (3, false), (4, false), (5, false)] (by kernel_rfl) ?_
      simp (maxSteps := 1000000) [go_sem, d2, d3]
      refine AWp.addGhost ?_
      have hb0 : BuildT H0 (H1 ++ [(⟨[], false, false⟩ : Blk)]) H1.length [] := (BuildT.start H1).lower hp1
      have hpg : H1 <+: H1 ++ [(⟨[], false, false⟩ : Blk)] := List.prefix_append _ _
      generalize H1 ++ [(⟨[], false, false⟩ : Blk)] = HG at hb0 hpg ⊢
      refine AWp.loopVc (St := Nat × List Rw × (Nat × Nat × List Bk) × (Nat × Nat × List Bk) × Nat)
        (fun s => [(1, .pointer (some ⟨H.length, 0, none⟩)), (4, lv 3 s.1 0 s.2.1.length), (5, lv 3 s.2.2.1.1 s.2.2.1.2.1 s.2.2.1.2.2.length), (6, lv 3 s.2.2.2.1.1 s.2.2.2.1.2.1 s.2.2.2.1.2.2.length)])
        (fun s H' => BuildT H0 H' s.1 s.2.1 /\ (∀ r ∈ s.2.1, r.p = p /\ r.o.length <= 100 /\ r.i.length <= 100) /\ BlocksAt H' (lv 3 s.2.2.1.1 s.2.2.1.2.1 s.2.2.1.2.2.length) s.2.2.1.2.2 /\ BlocksAt H' (lv 3 s.2.2.2.1.1 s.2.2.2.1.2.1 s.2.2.2.1.2.2.length) s.2.2.2.1.2.2 /\
          IsSys p s.2.2.1.2.2 /\ IsSys p s.2.2.2.1.2.2 /\ s.2.1.length + s.2.2.1.2.2.length <= 12 /\ s.2.2.1.2.2.length <= s.2.2.2.2 /\ s.2.1.map Rw.t ++ partsF s.2.2.2.2 s.2.2.1.2.2 s.2.2.2.1.2.2 = partsF o.length o i) (fun s => s.2.2.1.2.2.length)
        (H1.length, [], (j, q, o), (j', q', i), o.length) ?_ ?_ ?_
      · simp [upF, Fr.get, Up.refl, Up.nil]
      · exact ⟨hb0, by simp, ⟨j, q, rfl, h1.pre hpg, h2⟩, ⟨j', q', rfl, h1'.pre hpg, h2'⟩, hS1, hS2, by simpa using hlen, Nat.le_refl _, by simp⟩
      · rintro K ⟨oid, rows, ⟨ju, qu, o'⟩, ⟨jw, qw, i'⟩, fuel⟩ H' ⟨hb, hrw, hbu, hbw, hSo, hSi, hsum, hfu, heq⟩ hK
        simp only at hb hrw hbu hbw hSo hSi hsum hfu heq
        obtain ⟨d0, d1, d2, d3⟩ := (hx0.pre hb.pre).tr
        by_cases hne : o' = []
        · subst hne
          rw [partsF_nil, List.append_nil] at heq
          have fin := h H' (lv 3 oid 0 rows.length) (hp0.trans hb.pre) (by
            rw [hr]; simp only; rw [<- heq]
            exact (hb.inn (by omega) hrw).wider hp0.length_le)
          rw [hr] at fin
          simp (maxSteps := 1000000) [go_sem]
          exact ⟨_, Up.refl _ _, fin⟩
        · have hpos : 0 < o'.length := List.length_pos_iff.2 hne
          have hposi : (0 : Int) < o'.length := by omega
          obtain ⟨f, rfl⟩ : ∃ f, fuel = f + 1 := ⟨fuel - 1, by omega⟩
          rw [partsF_succ hne] at heq
          obtain ⟨pn, ps1, ps2⟩ := partP_sub (i := i') hne
          have hlt := less_lt pn ps1
          have hi35 := hSi.2.1
          have hl2 := ps1.length_le
          have hl3 := ps2.length_le
          have hno := (less_sub o' (partP o' i').1).length_le
          have hnl := (less_sub i' (partP o' i').2).length_le
          have hSo' := sys_sub hSo (less_sub o' (partP o' i').1)
          have hSi' := sys_sub hSi (less_sub i' (partP o' i').2)
          simp (maxSteps := 1000000) [go_sem, hpos, hposi, hne]
          refine firstPart_ok hbu hbw hSo.good15 hSo.2.2.2 hSi.good15 (by omega) (by omega) _ ?_
          intro H2 a b hp2 ha hbb
          obtain ⟨ja, qa, rfl, xa, xa2⟩ := ha
          obtain ⟨jb, qb, rfl, xb, xb2⟩ := hbb
          have hxx2 := hx0.pre (hb.pre.trans hp2)
          obtain ⟨d0, d1, d2, d3⟩ := hxx2.tr
          obtain ⟨⟨A, B⟩, hAB⟩ : ∃ r, partP o' i' = r := ⟨_, rfl⟩
          rw [hAB] at xa xa2 xb xb2 heq ps1 ps2 pn hlt hl2 hl3 hno hnl hSo' hSi' ⊢
          simp only at xa xa2 xb xb2 heq ps1 ps2 pn hlt hl2 hl3 hno hnl hSo' hSi' ⊢
          simp (maxSteps := 1000000) [go_sem]
          refine AWp.draw mixed [(0, false), (1, false), (2, false), (3, false), (5, false), (4, true), (6, true), (7, false), (8, false), (9, false), (10, false)] (by kernel_rfl) ?_
          simp (maxSteps := 1000000) [go_sem, d1]
          refine cloneB_ok ⟨ja, qa, rfl, xa, xa2⟩ (by omega) _ ?_
          intro H3 ca hp3 hca
          simp (maxSteps := 1000000) [go_sem, d1, hp3]
          refine cloneB_ok ⟨jb, qb, rfl, xb.pre hp3, xb2⟩ (by omega) _ ?_
          intro H4 cb hp4 hcb
          have hp24 := hp3.trans hp4
          have hrow : TradeIn H2.length H4.length H4 ca cb A B := BlocksIn.tr (hca.pre hp4) hcb hp3.length_le hp4.length_le
          obtain ⟨hsrc, H5, hap, hb5, hs5⟩ := (hb.keep hp2).push (r := ⟨p, ca, cb, H2.length, H4.length, A, B⟩) hp24 hrow (Nat.le_refl _) (Nat.le_refl _) hp24.length_le
          obtain ⟨idc, ⟨rfl, _, _⟩, _⟩ := id hca
          obtain ⟨idd, ⟨rfl, _, _⟩, _⟩ := id hcb
          simp only [Rw.cells] at hsrc hap
          have hni := (hb.keep (hp2.trans hp24)).noInts
          have hrl : rows.length <= 12 := by omega
          simp (maxSteps := 1000000) [go_sem, hp4, hsrc, hap]
          refine andK_intro (by omega) ?_
          have ha5 : BlocksAt H5 (lv 3 ja qa A.length) A := BlocksAt.past ⟨ja, qa, rfl, xa.pre hp24, xa2⟩ hni hs5
          have hb5' : BlocksAt H5 (lv 3 jb qb B.length) B := BlocksAt.past ⟨jb, qb, rfl, xb.pre hp24, xb2⟩ hni hs5
          have ho5 : BlocksAt H5 (lv 3 ju qu o'.length) o' := BlocksAt.past (hbu.pre (hp2.trans hp24)) hni hs5
          have hi5 : BlocksAt H5 (lv 3 jw qw i'.length) i' := BlocksAt.past (hbw.pre (hp2.trans hp24)) hni hs5
          refine less_ok ho5 ha5 (by omega) _ ?_
          intro H6 v6 hp6 h6
          obtain ⟨id6, ⟨rfl, _, _⟩, _⟩ := id h6
          simp (maxSteps := 1000000) [go_sem]
          refine less_ok (hi5.pre hp6) (hb5'.pre hp6) (by omega) _ ?_
          intro H7 v7 hp7 h7
          obtain ⟨id7, ⟨rfl, _, _⟩, _⟩ := id h7
          simp (maxSteps := 1000000) [go_sem]
          refine hK (H4.length + 1, rows ++ [⟨p, lv 3 idc 0 A.length, lv 3 idd 0 B.length, H2.length, H4.length, A, B⟩], (id6, 0, lessB o' A), (id7, 0, lessB i' B), f) _ _ (by simp only; omega) (by simp [upF, Fr.get, Up.refl]) ⟨hb5.keep (hp6.trans hp7), ?_, (h6.pre hp7).read, h7.read, hSo', hSi', by simp only [List.length_append, List.length_singleton]; omega, by simp only; omega, ?_⟩
          · intro r hr
            rcases List.mem_append.1 hr with hr | hr
            · exact hrw r hr
            · simp at hr; subst hr; exact ⟨rfl, by simp only; omega, by simp only; omega⟩
          · simp only [List.map_append, List.map_cons, List.map_nil, List.append_assoc]
            exact heq
    · have hlen' : ((12 : Int) < o.length) := by omega
      have hlen2 : (12 < o.length) := by omega
      simp (maxSteps := 1000000) [go_sem, d1, d2, d3, hlen', hlen2]
      exact bad H1 3 (hp0.trans hp1) (by rw [rParts, hs, if_pos rfl, if_neg hlen])

end Go.Proofs.YtkimaohcmcfcnaaGreat
end
