/- Part 12 of what the proof of the law FnTradeParts rests on: contracts of functions of the program, for every argument that each names; no statement of the seat is proved here. -/
import Derived.Test.YtkimaohcmcfcnaaGreatFnTradePartsPart11

set_option linter.all false
set_option maxRecDepth 20000
set_option maxHeartbeats 8000000
section
namespace Go.Proofs.YtkimaohcmcfcnaaGreat
open Go.Ab

def RIn (lo : Nat) (H : Heap) (v : Value) (bs : List Bk) : Prop := ∃ id o, v = lv 3 id o bs.length /\ At H id o (tri bs) /\ bs.length <= 140737488355328 /\ (bs ≠ [] -> lo <= id)
theorem RIn.read {lo : Nat} {H : Heap} {v : Value} {bs : List Bk} (h : RIn lo H v bs) : BlocksAt H v bs := by obtain ⟨id, o, h1, h2, h3, _⟩ := h; exact ⟨id, o, h1, h2, h3⟩
theorem RIn.one {lo : Nat} {H : Heap} {v : Value} {bs : List Bk} (h : RIn lo H v bs) : v.oneCell' = true := h.read.one
theorem RIn.keep {lo : Nat} {H H' : Heap} {v : Value} {bs : List Bk} (h : RIn lo H v bs) {S : Nat -> Prop} (hs : Same S H H') (hd : ∀ j, lo <= j -> ¬ S j) : RIn lo H' v bs := by
  obtain ⟨id, o, h1, h2, h3, h4⟩ := h
  refine ⟨id, o, h1, At.keepS hs h2 (fun hn => hd _ (h4 fun e => hn (by rw [e]; rfl))), h3, h4⟩
theorem RIn.wider {lo lo' : Nat} {H : Heap} {v : Value} {bs : List Bk} (h : RIn lo H v bs) (hl : lo' <= lo) : RIn lo' H v bs := by
  obtain ⟨id, o, h1, h2, h3, h4⟩ := h
  exact ⟨id, o, h1, h2, h3, fun hn => by have := h4 hn; omega⟩
theorem BlocksIn.rin {a b : Nat} {H : Heap} {v : Value} {bs : List Bk} (h : BlocksIn a b H v bs) : RIn a H v bs := by
  obtain ⟨id, ⟨h1, h2, h3⟩, h4⟩ := h
  refine ⟨id, 0, h1, ?_, h3, fun hn => (h4 hn).1⟩
  rcases h2 with rfl | h2
  · exact .inl rfl
  · exact Holds.at ⟨true, h2⟩
theorem TradeIn.rin {a b : Nat} {H : Heap} {u w : Value} {o i : List Bk} (h : TradeIn a b H u w o i) : RIn a H u o /\ RIn a H w i := by
  obtain ⟨m, h1, h2, h3, h4⟩ := h
  exact ⟨h3.rin, h4.rin.wider h1⟩
theorem RIn.nil (lo : Nat) (H : Heap) (v : Value) (hv : ∃ id, v = lv 3 id 0 0) : RIn lo H v [] := by
  obtain ⟨id, rfl⟩ := hv
  exact ⟨id, 0, rfl, .inl rfl, by simp, fun h => absurd rfl h⟩

theorem rDiff_small (p : Int) (x : List Bk) (q : Int) (y : List Bk) : (rDiff p x q y).1.2.1.length <= x.length /\ (rDiff p x q y).1.2.2.length <= y.length := by
  unfold rDiff
  split
  · split
    · exact ⟨List.length_filter_le _ _, List.length_filter_le _ _⟩
    · exact ⟨Nat.zero_le _, Nat.zero_le _⟩
  · exact ⟨Nat.zero_le _, Nat.zero_le _⟩

theorem RIn.src4 {lo : Nat} {H : Heap} {v : Value} {bs : List Bk} (h : RIn lo H v bs) (hl : bs.length = 4) : ∃ i o, v = lv 3 i o 4 /\ ∀ H', Same (fun j => H.length <= j) H H' -> cellsAt H' i o 12 = some (tri bs) := by
  obtain ⟨i, o, e, h2, _⟩ := h
  rw [hl] at e
  refine ⟨i, o, e, fun H' hs => ?_⟩
  have hp := hs.prefix (fun j hj e => by omega)
  have := tri_src (h2.pre hp)
  simpa [srcCells, hl] using this
theorem app4 {H : Heap} {id : Nat} (hb : H[id]? = some ⟨[], true, true⟩) {bs : List Bk} (hl : bs.length = 4) :
    ∃ H', appendH H 3 (.slice (some ⟨id, 0, none⟩) 0 0) 4 (tri bs) = some (lv 3 H.length 0 4, H') /\ OL 3 H' H.length (tri bs) 4 /\ H <+: H' /\ H'.length = H.length + 1 := by
  have hc : cellsAt H id 0 0 = some [] := by rw [cellsAt_of hb rfl (by simp)]; simp
  exact ⟨H ++ [⟨tri bs, true, true⟩], by simp [appendH, hc], ⟨by rw [tri_length, hl], .inr (by simp)⟩, List.prefix_append _ _, by simp⟩
theorem app8 {H : Heap} {id : Nat} {cs : List Value} (h : OL 3 H id cs 4) {bs : List Bk} (hl : bs.length = 4) :
    ∃ H', appendH H 3 (lv 3 id 0 4) 4 (tri bs) = some (lv 3 H.length 0 8, H') /\ OL 3 H' H.length (cs ++ tri bs) 8 /\ Same (fun j => j = id) H H' /\ H'.length = H.length + 1 :=
  h.append (by omega) (m := 4) (by omega) (by rw [tri_length, hl])
theorem OL.read8 {H : Heap} {id : Nat} {a b : List Bk} (h : OL 3 H id (tri a ++ tri b) 8) (ha : a.length = 4) (hb : b.length = 4) : BlocksAt H (lv 3 id 0 8) (a ++ b) :=
  ⟨id, 0, by rw [List.length_append, ha, hb], by rw [tri_append]; exact h.at, by rw [List.length_append, ha, hb]; omega⟩

theorem drawTradeOf_ok {L s : Nat} {H : Heap} (hs : Src L s H) (Post : Value -> Heap -> Prop)
    (h : ∀ (H' : Heap) (r : Int) (u w : Value) (o i : List Bk), Same (fun j => j = s) H H' -> Src L s H' -> RIn H.length H' u o -> RIn H.length H' w i -> o.length <= 300 -> i.length <= 300 -> Post (tradeV r u w) H') :
    ACalls Tryz.prog 26 [.pointer (some ⟨s, 0, none⟩)] H Post := by
  have hslt := hs.lt
  have hsL := hs.1
  refine ACalls.res ?_
  refine acalls_vc (rs := [.cell 2 26]) Tryz.func26 rfl rfl Tryz.ntmps26 rfl rfl ?_
  simp (maxSteps := 1000000) [go_sem]
  have hp0 : H <+: H ++ [⟨[.int .i64 0, .slice none 0 0, .slice none 0 0], true, true⟩] := List.prefix_append _ _
  have hr0 : (H ++ [(⟨[.int .i64 0, .slice none 0 0, .slice none 0 0], true, true⟩ : Blk)])[H.length]? = some ⟨[.int .i64 0, .slice none 0 0, .slice none 0 0], true, true⟩ := by simp
  have hl0 : (H ++ [(⟨[.int .i64 0, .slice none 0 0, .slice none 0 0], true, true⟩ : Blk)]).length = H.length + 1 := by simp
  generalize H ++ [(⟨[.int .i64 0, .slice none 0 0, .slice none 0 0], true, true⟩ : Blk)] = H0 at hp0 hr0 hl0 ⊢
  have fin : ∀ (HN : Heap) (r : Int) (u w : Value) (o i : List Bk), Same (fun j => j = s) H HN -> Src L s HN -> HN[H.length]? = some ⟨[.int .i64 0, .slice none 0 0, .slice none 0 0], true, true⟩ -> RIn (H.length + 1) HN u o -> RIn (H.length + 1) HN w i -> o.length <= 300 -> i.length <= 300 ->
      ∃ HZ, storeAt HN H.length 0 [.int .i64 r, u, w] = some HZ /\ cellsAt HZ H.length 0 3 = some [.int .i64 r, u, w] /\ Post (tradeV r u w) HZ := by
    intro HN r u w o i hsm hS hr hu hw ho hi
    obtain ⟨_, _, _, _, g⟩ := trb_cells hr
    obtain ⟨s1, s2, s3⟩ := g r u w hu.one hw.one
    exact ⟨_, s1, (trb_cells s2).1, h _ r u w o i (sameUp hsm s3 (fun j e => by omega)) (hS.keep s3 (fun j e => ⟨by omega, by omega⟩)) ((hu.keep s3 (fun j hj e => by omega)).wider (by omega)) ((hw.keep s3 (fun j hj e => by omega)).wider (by omega)) ho hi⟩
  have fin0 : ∀ (HN : Heap) (r : Int) (a b : Nat), Same (fun j => j = s) H HN -> Src L s HN -> HN[H.length]? = some ⟨[.int .i64 0, .slice none 0 0, .slice none 0 0], true, true⟩ ->
      ∃ HZ, storeAt HN H.length 0 [.int .i64 r, .slice (some ⟨a, 0, none⟩) 0 0, .slice (some ⟨b, 0, none⟩) 0 0] = some HZ /\ cellsAt HZ H.length 0 3 = some [.int .i64 r, .slice (some ⟨a, 0, none⟩) 0 0, .slice (some ⟨b, 0, none⟩) 0 0] /\
        ∃ v', Up HZ (.agg #[.int .i64 r, .slice (some ⟨a, 0, none⟩) 0 0, .slice (some ⟨b, 0, none⟩) 0 0]) v' /\ Post v' HZ := by
    intro HN r a b hsm hS hr
    obtain ⟨_, _, _, _, g⟩ := trb_cells hr
    obtain ⟨s1, s2, s3⟩ := g r (.slice (some ⟨a, 0, none⟩) 0 0) (.slice (some ⟨b, 0, none⟩) 0 0) rfl rfl
    exact ⟨_, s1, (trb_cells s2).1, tradeV r (lv 3 0 0 0) (lv 3 0 0 0), Up.agg ⟨Up.refl _ _, Up.ex0 _ _ _ _ _ _, Up.ex0 _ _ _ _ _ _, trivial⟩, h _ r _ _ [] [] (sameUp hsm s3 (fun j e => by omega)) (hS.keep s3 (fun j e => ⟨by omega, by omega⟩)) (RIn.nil _ _ _ ⟨0, rfl⟩) (RIn.nil _ _ _ ⟨0, rfl⟩) (by simp) (by simp)⟩
  refine drawFull_ok (hs.pre hp0) _ ?_
  intro H1 p x bs hs1 hS1 hx hd hlb
  have onex := hx.one
  have hpp := hd.pts
  have hle1 := hs1.1
  simp (maxSteps := 1000000) [go_sem, sysV, onex]
  have hx2 : (H1 ++ [(⟨[.int .i64 p, x], true, true⟩ : Blk)])[H1.length]? = some ⟨[.int .i64 p, x], true, true⟩ := by simp
  have hp2 : H1 <+: H1 ++ [(⟨[.int .i64 p, x], true, true⟩ : Blk)] := List.prefix_append _ _
  generalize H1 ++ [(⟨[.int .i64 p, x], true, true⟩ : Blk)] = H2 at hx2 hp2 ⊢
  obtain ⟨a0, a1, a2, a3⟩ := sys_cells hx2 onex
  try simp (maxSteps := 1000000) [go_sem, a0]
  refine pasch_ok (hx.read.pre hp2) (by omega) _ ?_
  intro H3 fv rows e hp3 hts hrl
  obtain ⟨fid, rfl, hfb, hfr⟩ := hts
  have hp13 := hp2.trans hp3
  have hle2 := hp2.length_le
  have hl2 := (List.getElem?_eq_some_iff.1 hx2).1
  simp (maxSteps := 1000000) [go_sem]
  refine next_ok (hS1.pre hp13) _ ?_
  intro H4 k hs4 hl4 hS4 hk0 hk5
  have hx4 := hs4.get (pget hp3 hx2) (by omega)
  have hxs4 := (hx.pre hp13).keep hs4 (fun j hj e => by omega)
  have hr4 := hs4.get (Same.get (S := fun _ => False) (Same.of_prefix hp13) (hs1.get hr0 (by omega)) (fun e => e)) (by omega)
  have hsm4 : Same (fun j => j = s) H H4 := (((Same.of_prefix hp0).trans hs1).trans (Same.of_prefix hp13)).trans hs4
  have hfb4 : rows ≠ [] -> H2.length <= fid /\ H4[fid]? = some ⟨cellsT rows, true, true⟩ := fun hn => ⟨(hfb hn).1, hs4.get (hfb hn).2 (by have := (hfb hn).1; omega)⟩
  have hfr4 : ∀ r ∈ rows, RIn H2.length H4 r.u r.o /\ RIn H2.length H4 r.w r.i /\ r.o.length = 4 /\ r.i.length = 4 := fun r hr => by
    obtain ⟨g1, g2, g3⟩ := hfr r hr
    obtain ⟨k1, k2⟩ := (g2.keep hs4 (fun j hj => by have := hj.1; omega)).rin
    exact ⟨k1.wider g1, k2.wider g1, g3⟩
  clear hfb hfr
  have hle4 := hs4.1
  have hle3 := hp3.length_le
  obtain ⟨b0, b1, b2, b3⟩ := sys_cells hx4 onex
  have rowc : ∀ (HN : Heap) (j : Nat) (hj : j < rows.length), Same (fun j => j = s) H4 HN -> cellsAt HN fid (j * 3) 3 = some [.int .i64 rows[j].p, rows[j].u, rows[j].w] := fun HN j hj hsm => by
    obtain ⟨g1, g2⟩ := hfb4 (by intro e; rw [e] at hj; simp at hj)
    exact (row3 (Holds.at ⟨true, hsm.get g2 (by omega)⟩) (List.getElem?_eq_getElem hj)).1
  rcases Decidable.em (k = 0) with c0 | c0
  case' inl =>
    subst c0
    rcases Nat.eq_zero_or_pos rows.length with hn | hn
  case' inl.inr =>
    simp (maxSteps := 1000000) [go_sem, hn]
    refine next_ok hS4 _ ?_
    intro H5 j hs5 hl5 hS5 hj0 hj1
    obtain ⟨j, rfl⟩ : ∃ n : Nat, j = n := ⟨j.toNat, by omega⟩
    have hjl : j < rows.length := by omega
    have c3 := rowc H5 j hjl hs5
    obtain ⟨g1, g2, g3, g4⟩ := hfr4 rows[j] (List.getElem_mem hjl)
    generalize rows[j] = r at c3 g1 g2 g3 g4
    obtain ⟨HZ, z1, z2, z3⟩ := fin H5 r.p r.u r.w r.o r.i (hsm4.trans hs5) hS5 (hs5.get hr4 (by omega)) ((g1.keep hs5 (fun j hj e => by omega)).wider (by omega)) ((g2.keep hs5 (fun j hj e => by omega)).wider (by omega)) (by omega) (by omega)
    have o1 := g1.one
    have o2 := g2.one
    simp (maxSteps := 1000000) [go_sem, hjl, c3, o1, o2, z1, z2]
    exact ⟨_, Up.refl _ _, z3⟩
  case' inl.inl =>
    simp (maxSteps := 1000000) [go_sem, hn]
    have hST := hS4
    have hxT := hx4
    have hbT := hxs4
    have hrT := hr4
    have hsmT := hsm4
    have hleT : H1.length <= H4.length := by omega
    generalize H4 = HT at *
  case' inr =>
    have f0 : (k == 0) = false := by simpa using c0
    rcases Decidable.em (k = 1) with c1 | c1
  case' inr.inl =>
    subst c1
    simp (maxSteps := 1000000) [go_sem, b0]
    refine switched_ok hS4 hxs4 (by omega) (by omega) hd (by omega) _ ?_
    intro H5 y ys hs5 hS5 hy hdy hly
    simp (maxSteps := 1000000) [go_sem]
    refine switched_ok hS5 hy (by omega) (by have := hs5.1; omega) hdy (by omega) _ ?_
    intro H6 z zs hs6 hS6 hz hdz hlz
    have onez := hz.one
    have hs46 := hs5.trans hs6
    have hle6 := hs46.1
    have hz7 : (H6 ++ [(⟨[.int .i64 p, z], true, true⟩ : Blk)])[H6.length]? = some ⟨[.int .i64 p, z], true, true⟩ := by simp
    have hp7 : H6 <+: H6 ++ [(⟨[.int .i64 p, z], true, true⟩ : Blk)] := List.prefix_append _ _
    simp (maxSteps := 1000000) [go_sem, sysV, onez]
    generalize H6 ++ [(⟨[.int .i64 p, z], true, true⟩ : Blk)] = H7 at hz7 hp7 ⊢
    have hx7 := Same.get (S := fun _ => False) (Same.of_prefix hp7) (hs46.get hx4 (by omega)) (fun e => e)
    have hxs7 := (hxs4.keep hs46 (fun j hj e => by omega)).pre hp7
    obtain ⟨y0, y1, y2, y3⟩ := sys_cells hx7 onex
    obtain ⟨w0, w1, w2, w3⟩ := sys_cells hz7 onez
    simp (maxSteps := 1000000) [go_sem, y0, y1, w0, w1]
    refine specDiff_ok hxs7.read (by omega) (hz.read.pre hp7) (by omega) _ ?_
    intro H8 va vb hp8 hab
    obtain ⟨l1, l2⟩ := rDiff_small p bs p zs
    obtain ⟨r8, hr8⟩ : ∃ r, (rDiff p bs p zs).1.1 = r := ⟨_, rfl⟩
    obtain ⟨o8, ho8⟩ : ∃ r, (rDiff p bs p zs).1.2.1 = r := ⟨_, rfl⟩
    obtain ⟨i8, hi8⟩ : ∃ r, (rDiff p bs p zs).1.2.2 = r := ⟨_, rfl⟩
    obtain ⟨e8, he8⟩ : ∃ r, (rDiff p bs p zs).2 = r := ⟨_, rfl⟩
    rw [ho8] at l1 hab
    rw [hi8] at l2 hab
    rw [hr8, he8]
    have oneab : va.oneCell' = true /\ vb.oneCell' = true := ⟨hab.read.1.one, hab.read.2.one⟩
    have ht9 : (H8 ++ [(⟨[.int .i64 r8, va, vb], true, true⟩ : Blk)])[H8.length]? = some ⟨[.int .i64 r8, va, vb], true, true⟩ := by simp
    have hp9 : H8 <+: H8 ++ [(⟨[.int .i64 r8, va, vb], true, true⟩ : Blk)] := List.prefix_append _ _
    simp (maxSteps := 1000000) [go_sem, tradeV, oneab.1, oneab.2]
    generalize H8 ++ [(⟨[.int .i64 r8, va, vb], true, true⟩ : Blk)] = H9 at ht9 hp9 ⊢
    have hp79 := hp8.trans hp9
    have hsm9 := ((hsm4.trans hs46).trans (Same.of_prefix hp7)).trans (Same.of_prefix hp79)
    have hS9 := (hS6.pre hp7).pre hp79
    have hr9 := Same.get (S := fun _ => False) (Same.of_prefix (hp7.trans hp79)) (hs46.get hr4 (by omega)) (fun e => e)
    rcases Decidable.em (e8 = 0) with ce | ce
  case' inr.inl.inl =>
    subst ce
    obtain ⟨g1, g2⟩ := (hab.pre hp9).rin
    have hle7 := hp7.length_le
    obtain ⟨HZ, q1, q2, q3⟩ := fin H9 r8 va vb o8 i8 hsm9 hS9 hr9 (g1.wider (by omega)) (g2.wider (by omega)) (by omega) (by omega)
    have c9 := (trb_cells ht9).1
    simp (maxSteps := 1000000) [go_sem, c9, q1, q2]
    exact ⟨_, Up.refl _ _, q3⟩
  case' inr.inl.inr =>
    have fe : (e8 == 0) = false := by simpa using ce
    simp (maxSteps := 1000000) [go_sem, fe]
    have hST := hS9
    have hxT := pget hp79 hx7
    have hbT := hxs7.pre hp79
    have hrT := hr9
    have hsmT := hsm9
    have hleT : H1.length <= H9.length := by have := hp79.length_le; have := hp7.length_le; omega
    generalize H9 = HT at *
  case' inr.inr =>
    have f1 : (k == 1) = false := by simpa using c1
    rcases Decidable.em (k = 2) with c2 | c2
  case' inr.inr.inl =>
    subst c2
    rcases Nat.lt_or_ge 1 rows.length with hn | hn
  case' inr.inr.inl.inl =>
    have hn' : (1 : Int) < rows.length := by omega
    obtain ⟨hfl, hf4⟩ := hfb4 (by intro e; rw [e] at hn; simp at hn)
    have hfl4 := (List.getElem?_eq_some_iff.1 hf4).1
    simp (maxSteps := 1000000) [go_sem, hn, hn']
    refine AWp.regCut (St := Nat × Nat × Nat × Nat) (fun z => [(9, .pointer (some ⟨z.1, 0, none⟩)), (10, .pointer (some ⟨z.2.1, 0, none⟩))])
      (fun z H' => z.2.2.1 < rows.length /\ z.2.2.2 < rows.length /\ H4.length <= z.1 /\ H4.length <= z.2.1 /\ z.1 ≠ z.2.1 /\ Same (fun j => j = s) H4 H' /\ Src L s H' /\ H'[z.1]? = (rows[z.2.2.1]?).map (fun r => ⟨r.cells, true, true⟩) /\ H'[z.2.1]? = (rows[z.2.2.2]?).map (fun r => ⟨r.cells, true, true⟩)) ?_ ?_
    · intro Q' hQ'
      refine AWp.drawGS (fun i => i = fid) mixed [14, 15] [(0, false), (1, false), (2, false), (3, false), (7, false), (8, false), (9, false), (10, false), (4, false), (5, false), (6, false), (11, true), (12, false), (13, false), (14, true), (15, true), (16, true), (17, false)] (.one 0 false (.one 1 false (.one 2 false (.one 3 false (.one 7 false (.one 8 false (.one 9 false (.one 10 false (.alt 14 (.alt 15 (.one 4 false (.one 5 false (.one 6 false (.one 11 true (.one 12 false (.one 13 false (.one 16 true (.one 17 false .nil)))))))) (.one 4 false (.one 5 false (.one 6 false (.alt 15 (.one 11 true (.one 12 false (.one 13 false (.one 16 true (.one 17 false .nil))))) (.one 11 true (.one 12 false (.one 13 false (.one 15 true (.one 16 true (.one 17 false .nil))))))))))) (.alt 15 (.alt 14 (.one 4 false (.one 5 false (.one 6 false (.one 11 true (.one 12 false (.one 13 false (.one 16 true (.one 17 false .nil)))))))) (.one 4 false (.one 5 false (.one 6 false (.alt 14 (.one 11 true (.one 12 false (.one 13 false (.one 16 true (.one 17 false .nil))))) (.one 11 true (.one 12 false (.one 13 false (.one 14 true (.one 16 true (.one 17 false .nil))))))))))) (.one 4 false (.one 5 false (.one 6 false (.alt 14 (.alt 15 (.one 11 true (.one 12 false (.one 13 false (.one 16 true (.one 17 false .nil))))) (.one 11 true (.one 12 false (.one 13 false (.one 15 true (.one 16 true (.one 17 false .nil))))))) (.alt 15 (.alt 14 (.one 11 true (.one 12 false (.one 13 false (.one 16 true (.one 17 false .nil))))) (.one 11 true (.one 12 false (.one 13 false (.one 14 true (.one 16 true (.one 17 false .nil))))))) (.one 11 true (.one 12 false (.one 13 false (.alt 15 (.one 14 true (.one 16 true (.one 17 false .nil))) (.one 14 true (.one 15 true (.one 16 true (.one 17 false .nil))))))))))))))))))))))) (by kernel_rfl) ?_
      simp (maxSteps := 1000000) [go_sem, hn]
      try simp (maxSteps := 1000000) [go_sem, hn]
      refine vGS_alt ?_ ?_
      · have gp19 : H4 <+: H4 ++ [(⟨[.int .i64 0, .slice none 0 0, .slice none 0 0], true, true⟩ : Blk)] := List.prefix_append _ _
        have gb19 : (H4 ++ [(⟨[.int .i64 0, .slice none 0 0, .slice none 0 0], true, true⟩ : Blk)])[H4.length]? = some ⟨[.int .i64 0, .slice none 0 0, .slice none 0 0], true, true⟩ := by simp
        have gk19 : KeepS (fun i => i = fid) H4 (H4 ++ [(⟨[.int .i64 0, .slice none 0 0, .slice none 0 0], true, true⟩ : Blk)]) := fun i hi => List.getElem?_append_left (by have := (Nat.le_refl H4.length); omega)
        try simp (maxSteps := 1000000) [go_sem, hn]
        have gz19 : (H4 ++ [(⟨[.int .i64 0, .slice none 0 0, .slice none 0 0], true, true⟩ : Blk)]).length = H4.length + 1 := by simp
        generalize H4 ++ [(⟨[.int .i64 0, .slice none 0 0, .slice none 0 0], true, true⟩ : Blk)] = G19 at gp19 gb19 gk19 gz19 ⊢
        refine andK_intro gk19 ?_
        have gid19 := (Nat.le_refl H4.length)
        have gle19 : H4.length <= G19.length := Nat.le_trans ((Nat.le_refl H4.length)) gp19.length_le
        have glt19 : H4.length < G19.length := (List.getElem?_eq_some_iff.1 gb19).1
        have gff19 := pget gp19 hf4
        try simp (maxSteps := 1000000) [go_sem, hn]
        refine vGS_alt ?_ ?_
        · have gp20 : G19 <+: G19 ++ [(⟨[.int .i64 0, .slice none 0 0, .slice none 0 0], true, true⟩ : Blk)] := List.prefix_append _ _
          have gb20 : (G19 ++ [(⟨[.int .i64 0, .slice none 0 0, .slice none 0 0], true, true⟩ : Blk)])[G19.length]? = some ⟨[.int .i64 0, .slice none 0 0, .slice none 0 0], true, true⟩ := by simp
          have gk20 : KeepS (fun i => i = fid) G19 (G19 ++ [(⟨[.int .i64 0, .slice none 0 0, .slice none 0 0], true, true⟩ : Blk)]) := fun i hi => List.getElem?_append_left (by have := gle19; omega)
          try simp (maxSteps := 1000000) [go_sem, hn]
          have gz20 : (G19 ++ [(⟨[.int .i64 0, .slice none 0 0, .slice none 0 0], true, true⟩ : Blk)]).length = G19.length + 1 := by simp
          generalize G19 ++ [(⟨[.int .i64 0, .slice none 0 0, .slice none 0 0], true, true⟩ : Blk)] = G20 at gp20 gb20 gk20 gz20 ⊢
          refine andK_intro gk20 ?_
          have gb20_14 := pget gp20 gb19
          have gid20 := gle19
          have gle20 : H4.length <= G20.length := Nat.le_trans (gle19) gp20.length_le
          have glt20 : G19.length < G20.length := (List.getElem?_eq_some_iff.1 gb20).1
          have gff20 := pget gp20 gff19
          try simp (maxSteps := 1000000) [go_sem, hn]
          refine next_ok ((hS4.pre gp19).pre gp20) _ ?_
          intro G21 y21 gs21 gl21 gS21 gy21 gz21
          obtain ⟨j4, rfl⟩ : ∃ n : Nat, y21 = n := ⟨y21.toNat, by omega⟩
          have hj4 : j4 < rows.length := by omega
          have gk21 : KeepS (fun i => i = fid) G20 G21 := fun i hi => gs21.2 i (by have := gle20; omega) (by omega)
          have gf21 := gs21.get gff20 (by omega)
          have cj4 := (row3 (Holds.at ⟨true, gf21⟩) (List.getElem?_eq_getElem hj4)).1
          simp only [Rw.cells] at cj4
          obtain ⟨kj41, kj42, _, _⟩ := hfr4 rows[j4] (List.getElem_mem hj4)
          have oj41 := kj41.one
          have oj42 := kj42.one
          have gb21_14 := gs21.get gb20_14 (by omega)
          have gb21_15 := gs21.get gb20 (by omega)
          have gle21 : H4.length <= G21.length := Nat.le_trans (gle20) gs21.1
          try simp (maxSteps := 1000000) [go_sem, hn, hj4, cj4, oj41, oj42]
          refine next_ok gS21 _ ?_
          intro G22 y22 gs22 gl22 gS22 gy22 gz22
          obtain ⟨j11, rfl⟩ : ∃ n : Nat, y22 = n := ⟨y22.toNat, by omega⟩
          have hj11 : j11 < rows.length := by omega
          have gk22 : KeepS (fun i => i = fid) G21 G22 := fun i hi => gs22.2 i (by have := gle21; omega) (by omega)
          try simp (maxSteps := 1000000) [go_sem, hn, hj4, cj4, oj41, oj42]
          refine andK_intro gk22 ?_
          have gf22 := gs22.get gf21 (by omega)
          have cj11 := (row3 (Holds.at ⟨true, gf22⟩) (List.getElem?_eq_getElem hj11)).1
          simp only [Rw.cells] at cj11
          obtain ⟨kj111, kj112, _, _⟩ := hfr4 rows[j11] (List.getElem_mem hj11)
          have oj111 := kj111.one
          have oj112 := kj112.one
          have gb22_14 := gs22.get gb21_14 (by omega)
          have gb22_15 := gs22.get gb21_15 (by omega)
          have gle22 : H4.length <= G22.length := Nat.le_trans (gle21) gs22.1
          try simp (maxSteps := 1000000) [go_sem, hn, hj4, cj4, oj41, oj42, hj11, cj11, oj111, oj112]
          obtain ⟨_, _, _, _, ga23⟩ := trb_cells gb22_14
          obtain ⟨p1, p2, p3⟩ := ga23 rows[j4].p rows[j4].u rows[j4].w oj41 oj42
          have gka : KeepS (fun i => i = fid) G22 (G22.set (H4.length) ⟨[.int .i64 rows[j4].p, rows[j4].u, rows[j4].w], true, true⟩) := fun i hi => p3.2 i (by have := gle22; omega) (by omega)
          obtain ⟨_, _, _, _, gb23⟩ := trb_cells (p3.get gb22_15 (by omega))
          obtain ⟨q1, q2, q3⟩ := gb23 rows[j11].p rows[j11].u rows[j11].w oj111 oj112
          have la := (List.getElem?_eq_some_iff.1 gb22_14).1
          try simp (maxSteps := 1000000) [go_sem, hn, hj4, cj4, oj41, oj42, hj11, cj11, oj111, oj112, p1]
          try refine andK_intro gka ?_
          try simp (maxSteps := 1000000) [go_sem, hn, hj4, cj4, oj41, oj42, hj11, cj11, oj111, oj112, q1]
          refine hQ' (H4.length, G19.length, j4, j11) _ _ ?_ ⟨hj4, hj11, by simp only; omega, by simp only; omega, by simp only; omega, sameUp (sameUp (((((Same.refl (fun j => j = s) H4).trans (Same.of_prefix gp19)).trans (Same.of_prefix gp20)).trans gs21).trans gs22) p3 (fun j e => by omega)) q3 (fun j e => by omega), (gS22.keep p3 (fun j e => ⟨by omega, by omega⟩)).keep q3 (fun j e => ⟨by omega, by omega⟩), (q3.get p2 (by omega)).trans (by simp [List.getElem?_eq_getElem hj4, Rw.cells]), q2.trans (by simp [List.getElem?_eq_getElem hj11, Rw.cells])⟩
          simp [upF, Fr.get, Up.refl]
        · try simp (maxSteps := 1000000) [go_sem, hn]
          refine next_ok (hS4.pre gp19) _ ?_
          intro G24 y24 gs24 gl24 gS24 gy24 gz24
          obtain ⟨j4, rfl⟩ : ∃ n : Nat, y24 = n := ⟨y24.toNat, by omega⟩
          have hj4 : j4 < rows.length := by omega
          have gk24 : KeepS (fun i => i = fid) G19 G24 := fun i hi => gs24.2 i (by have := gle19; omega) (by omega)
          have gf24 := gs24.get gff19 (by omega)
          have cj4 := (row3 (Holds.at ⟨true, gf24⟩) (List.getElem?_eq_getElem hj4)).1
          simp only [Rw.cells] at cj4
          obtain ⟨kj41, kj42, _, _⟩ := hfr4 rows[j4] (List.getElem_mem hj4)
          have oj41 := kj41.one
          have oj42 := kj42.one
          have gb24_14 := gs24.get gb19 (by omega)
          have gle24 : H4.length <= G24.length := Nat.le_trans (gle19) gs24.1
          try simp (maxSteps := 1000000) [go_sem, hn, hj4, cj4, oj41, oj42]
          refine vGS_alt ?_ ?_
          · have gp25 : G24 <+: G24 ++ [(⟨[.int .i64 0, .slice none 0 0, .slice none 0 0], true, true⟩ : Blk)] := List.prefix_append _ _
            have gb25 : (G24 ++ [(⟨[.int .i64 0, .slice none 0 0, .slice none 0 0], true, true⟩ : Blk)])[G24.length]? = some ⟨[.int .i64 0, .slice none 0 0, .slice none 0 0], true, true⟩ := by simp
            have gk25 : KeepS (fun i => i = fid) G24 (G24 ++ [(⟨[.int .i64 0, .slice none 0 0, .slice none 0 0], true, true⟩ : Blk)]) := fun i hi => List.getElem?_append_left (by have := gle24; omega)
            try simp (maxSteps := 1000000) [go_sem, hn, hj4, cj4, oj41, oj42]
            have gz25 : (G24 ++ [(⟨[.int .i64 0, .slice none 0 0, .slice none 0 0], true, true⟩ : Blk)]).length = G24.length + 1 := by simp
            generalize G24 ++ [(⟨[.int .i64 0, .slice none 0 0, .slice none 0 0], true, true⟩ : Blk)] = G25 at gp25 gb25 gk25 gz25 ⊢
            refine andK_intro gk25 ?_
            have gb25_14 := pget gp25 gb24_14
            have gid25 := gle24
            have gle25 : H4.length <= G25.length := Nat.le_trans (gle24) gp25.length_le
            have glt25 : G24.length < G25.length := (List.getElem?_eq_some_iff.1 gb25).1
            have gff25 := pget gp25 gf24
            try simp (maxSteps := 1000000) [go_sem, hn, hj4, cj4, oj41, oj42]
            refine next_ok (gS24.pre gp25) _ ?_
            intro G26 y26 gs26 gl26 gS26 gy26 gz26
            obtain ⟨j11, rfl⟩ : ∃ n : Nat, y26 = n := ⟨y26.toNat, by omega⟩
            have hj11 : j11 < rows.length := by omega
            have gk26 : KeepS (fun i => i = fid) G25 G26 := fun i hi => gs26.2 i (by have := gle25; omega) (by omega)
            try simp (maxSteps := 1000000) [go_sem, hn, hj4, cj4, oj41, oj42]
            refine andK_intro gk26 ?_
            have gf26 := gs26.get gff25 (by omega)
            have cj11 := (row3 (Holds.at ⟨true, gf26⟩) (List.getElem?_eq_getElem hj11)).1
            simp only [Rw.cells] at cj11
            obtain ⟨kj111, kj112, _, _⟩ := hfr4 rows[j11] (List.getElem_mem hj11)
            have oj111 := kj111.one
            have oj112 := kj112.one
            have gb26_14 := gs26.get gb25_14 (by omega)
            have gb26_15 := gs26.get gb25 (by omega)
            have gle26 : H4.length <= G26.length := Nat.le_trans (gle25) gs26.1
            try simp (maxSteps := 1000000) [go_sem, hn, hj4, cj4, oj41, oj42, hj11, cj11, oj111, oj112]
            obtain ⟨_, _, _, _, ga27⟩ := trb_cells gb26_14
            obtain ⟨p1, p2, p3⟩ := ga27 rows[j4].p rows[j4].u rows[j4].w oj41 oj42
            have gka : KeepS (fun i => i = fid) G26 (G26.set (H4.length) ⟨[.int .i64 rows[j4].p, rows[j4].u, rows[j4].w], true, true⟩) := fun i hi => p3.2 i (by have := gle26; omega) (by omega)
            obtain ⟨_, _, _, _, gb27⟩ := trb_cells (p3.get gb26_15 (by omega))
            obtain ⟨q1, q2, q3⟩ := gb27 rows[j11].p rows[j11].u rows[j11].w oj111 oj112
            have la := (List.getElem?_eq_some_iff.1 gb26_14).1
            try simp (maxSteps := 1000000) [go_sem, hn, hj4, cj4, oj41, oj42, hj11, cj11, oj111, oj112, p1]
            try refine andK_intro gka ?_
            try simp (maxSteps := 1000000) [go_sem, hn, hj4, cj4, oj41, oj42, hj11, cj11, oj111, oj112, q1]
            refine hQ' (H4.length, G24.length, j4, j11) _ _ ?_ ⟨hj4, hj11, by simp only; omega, by simp only; omega, by simp only; omega, sameUp (sameUp (((((Same.refl (fun j => j = s) H4).trans (Same.of_prefix gp19)).trans gs24).trans (Same.of_prefix gp25)).trans gs26) p3 (fun j e => by omega)) q3 (fun j e => by omega), (gS26.keep p3 (fun j e => ⟨by omega, by omega⟩)).keep q3 (fun j e => ⟨by omega, by omega⟩), (q3.get p2 (by omega)).trans (by simp [List.getElem?_eq_getElem hj4, Rw.cells]), q2.trans (by simp [List.getElem?_eq_getElem hj11, Rw.cells])⟩
            simp [upF, Fr.get, Up.refl]
          · try simp (maxSteps := 1000000) [go_sem, hn, hj4, cj4, oj41, oj42]
            refine next_ok gS24 _ ?_
            intro G28 y28 gs28 gl28 gS28 gy28 gz28
            obtain ⟨j11, rfl⟩ : ∃ n : Nat, y28 = n := ⟨y28.toNat, by omega⟩
            have hj11 : j11 < rows.length := by omega
            have gk28 : KeepS (fun i => i = fid) G24 G28 := fun i hi => gs28.2 i (by have := gle24; omega) (by omega)
            try simp (maxSteps := 1000000) [go_sem, hn, hj4, cj4, oj41, oj42]
            refine andK_intro gk28 ?_
            have gf28 := gs28.get gf24 (by omega)
            have cj11 := (row3 (Holds.at ⟨true, gf28⟩) (List.getElem?_eq_getElem hj11)).1
            simp only [Rw.cells] at cj11
            obtain ⟨kj111, kj112, _, _⟩ := hfr4 rows[j11] (List.getElem_mem hj11)
            have oj111 := kj111.one
            have oj112 := kj112.one
            have gb28_14 := gs28.get gb24_14 (by omega)
            have gle28 : H4.length <= G28.length := Nat.le_trans (gle24) gs28.1
            have gp29 : G28 <+: G28 ++ [(⟨[.int .i64 0, .slice none 0 0, .slice none 0 0], true, true⟩ : Blk)] := List.prefix_append _ _
            have gb29 : (G28 ++ [(⟨[.int .i64 0, .slice none 0 0, .slice none 0 0], true, true⟩ : Blk)])[G28.length]? = some ⟨[.int .i64 0, .slice none 0 0, .slice none 0 0], true, true⟩ := by simp
            have gk29 : KeepS (fun i => i = fid) G28 (G28 ++ [(⟨[.int .i64 0, .slice none 0 0, .slice none 0 0], true, true⟩ : Blk)]) := fun i hi => List.getElem?_append_left (by have := gle28; omega)
            try simp (maxSteps := 1000000) [go_sem, hn, hj4, cj4, oj41, oj42, hj11, cj11, oj111, oj112]
            have gz29 : (G28 ++ [(⟨[.int .i64 0, .slice none 0 0, .slice none 0 0], true, true⟩ : Blk)]).length = G28.length + 1 := by simp
            generalize G28 ++ [(⟨[.int .i64 0, .slice none 0 0, .slice none 0 0], true, true⟩ : Blk)] = G29 at gp29 gb29 gk29 gz29 ⊢
            refine andK_intro gk29 ?_
            have gb29_14 := pget gp29 gb28_14
            have gid29 := gle28
            have gle29 : H4.length <= G29.length := Nat.le_trans (gle28) gp29.length_le
            have glt29 : G28.length < G29.length := (List.getElem?_eq_some_iff.1 gb29).1
            have gff29 := pget gp29 gf28
            try simp (maxSteps := 1000000) [go_sem, hn, hj4, cj4, oj41, oj42, hj11, cj11, oj111, oj112]
            obtain ⟨_, _, _, _, ga30⟩ := trb_cells gb29_14
            obtain ⟨p1, p2, p3⟩ := ga30 rows[j4].p rows[j4].u rows[j4].w oj41 oj42
            have gka : KeepS (fun i => i = fid) G29 (G29.set (H4.length) ⟨[.int .i64 rows[j4].p, rows[j4].u, rows[j4].w], true, true⟩) := fun i hi => p3.2 i (by have := gle29; omega) (by omega)
            obtain ⟨_, _, _, _, gb30⟩ := trb_cells (p3.get gb29 (by omega))
            obtain ⟨q1, q2, q3⟩ := gb30 rows[j11].p rows[j11].u rows[j11].w oj111 oj112
            have la := (List.getElem?_eq_some_iff.1 gb29_14).1
            try simp (maxSteps := 1000000) [go_sem, hn, hj4, cj4, oj41, oj42, hj11, cj11, oj111, oj112, p1]
            try refine andK_intro gka ?_
            try simp (maxSteps := 1000000) [go_sem, hn, hj4, cj4, oj41, oj42, hj11, cj11, oj111, oj112, q1]
            refine hQ' (H4.length, G28.length, j4, j11) _ _ ?_ ⟨hj4, hj11, by simp only; omega, by simp only; omega, by simp only; omega, sameUp (sameUp (((((Same.refl (fun j => j = s) H4).trans (Same.of_prefix gp19)).trans gs24).trans gs28).trans (Same.of_prefix gp29)) p3 (fun j e => by omega)) q3 (fun j e => by omega), ((gS28.pre gp29).keep p3 (fun j e => ⟨by omega, by omega⟩)).keep q3 (fun j e => ⟨by omega, by omega⟩), (q3.get p2 (by omega)).trans (by simp [List.getElem?_eq_getElem hj4, Rw.cells]), q2.trans (by simp [List.getElem?_eq_getElem hj11, Rw.cells])⟩
            simp [upF, Fr.get, Up.refl]
      · try simp (maxSteps := 1000000) [go_sem, hn]
        refine vGS_alt ?_ ?_
        · have gp31 : H4 <+: H4 ++ [(⟨[.int .i64 0, .slice none 0 0, .slice none 0 0], true, true⟩ : Blk)] := List.prefix_append _ _
          have gb31 : (H4 ++ [(⟨[.int .i64 0, .slice none 0 0, .slice none 0 0], true, true⟩ : Blk)])[H4.length]? = some ⟨[.int .i64 0, .slice none 0 0, .slice none 0 0], true, true⟩ := by simp
          have gk31 : KeepS (fun i => i = fid) H4 (H4 ++ [(⟨[.int .i64 0, .slice none 0 0, .slice none 0 0], true, true⟩ : Blk)]) := fun i hi => List.getElem?_append_left (by have := (Nat.le_refl H4.length); omega)
          try simp (maxSteps := 1000000) [go_sem, hn]
          have gz31 : (H4 ++ [(⟨[.int .i64 0, .slice none 0 0, .slice none 0 0], true, true⟩ : Blk)]).length = H4.length + 1 := by simp
          generalize H4 ++ [(⟨[.int .i64 0, .slice none 0 0, .slice none 0 0], true, true⟩ : Blk)] = G31 at gp31 gb31 gk31 gz31 ⊢
          refine andK_intro gk31 ?_
          have gid31 := (Nat.le_refl H4.length)
          have gle31 : H4.length <= G31.length := Nat.le_trans ((Nat.le_refl H4.length)) gp31.length_le
          have glt31 : H4.length < G31.length := (List.getElem?_eq_some_iff.1 gb31).1
          have gff31 := pget gp31 hf4
          try simp (maxSteps := 1000000) [go_sem, hn]
          refine vGS_alt ?_ ?_
          · have gp32 : G31 <+: G31 ++ [(⟨[.int .i64 0, .slice none 0 0, .slice none 0 0], true, true⟩ : Blk)] := List.prefix_append _ _
            have gb32 : (G31 ++ [(⟨[.int .i64 0, .slice none 0 0, .slice none 0 0], true, true⟩ : Blk)])[G31.length]? = some ⟨[.int .i64 0, .slice none 0 0, .slice none 0 0], true, true⟩ := by simp
            have gk32 : KeepS (fun i => i = fid) G31 (G31 ++ [(⟨[.int .i64 0, .slice none 0 0, .slice none 0 0], true, true⟩ : Blk)]) := fun i hi => List.getElem?_append_left (by have := gle31; omega)
            try simp (maxSteps := 1000000) [go_sem, hn]
            have gz32 : (G31 ++ [(⟨[.int .i64 0, .slice none 0 0, .slice none 0 0], true, true⟩ : Blk)]).length = G31.length + 1 := by simp
            generalize G31 ++ [(⟨[.int .i64 0, .slice none 0 0, .slice none 0 0], true, true⟩ : Blk)] = G32 at gp32 gb32 gk32 gz32 ⊢
            refine andK_intro gk32 ?_
            have gb32_15 := pget gp32 gb31
            have gid32 := gle31
            have gle32 : H4.length <= G32.length := Nat.le_trans (gle31) gp32.length_le
            have glt32 : G31.length < G32.length := (List.getElem?_eq_some_iff.1 gb32).1
            have gff32 := pget gp32 gff31
            try simp (maxSteps := 1000000) [go_sem, hn]
            refine next_ok ((hS4.pre gp31).pre gp32) _ ?_
            intro G33 y33 gs33 gl33 gS33 gy33 gz33
            obtain ⟨j4, rfl⟩ : ∃ n : Nat, y33 = n := ⟨y33.toNat, by omega⟩
            have hj4 : j4 < rows.length := by omega
            have gk33 : KeepS (fun i => i = fid) G32 G33 := fun i hi => gs33.2 i (by have := gle32; omega) (by omega)
            have gf33 := gs33.get gff32 (by omega)
            have cj4 := (row3 (Holds.at ⟨true, gf33⟩) (List.getElem?_eq_getElem hj4)).1
            simp only [Rw.cells] at cj4
            obtain ⟨kj41, kj42, _, _⟩ := hfr4 rows[j4] (List.getElem_mem hj4)
            have oj41 := kj41.one
            have oj42 := kj42.one
            have gb33_15 := gs33.get gb32_15 (by omega)
            have gb33_14 := gs33.get gb32 (by omega)
            have gle33 : H4.length <= G33.length := Nat.le_trans (gle32) gs33.1
            try simp (maxSteps := 1000000) [go_sem, hn, hj4, cj4, oj41, oj42]
            refine next_ok gS33 _ ?_
            intro G34 y34 gs34 gl34 gS34 gy34 gz34
            obtain ⟨j11, rfl⟩ : ∃ n : Nat, y34 = n := ⟨y34.toNat, by omega⟩
            have hj11 : j11 < rows.length := by omega
            have gk34 : KeepS (fun i => i = fid) G33 G34 := fun i hi => gs34.2 i (by have := gle33; omega) (by omega)
            try simp (maxSteps := 1000000) [go_sem, hn, hj4, cj4, oj41, oj42]
            refine andK_intro gk34 ?_
            have gf34 := gs34.get gf33 (by omega)
            have cj11 := (row3 (Holds.at ⟨true, gf34⟩) (List.getElem?_eq_getElem hj11)).1
            simp only [Rw.cells] at cj11
            obtain ⟨kj111, kj112, _, _⟩ := hfr4 rows[j11] (List.getElem_mem hj11)
            have oj111 := kj111.one
            have oj112 := kj112.one
            have gb34_15 := gs34.get gb33_15 (by omega)
            have gb34_14 := gs34.get gb33_14 (by omega)
            have gle34 : H4.length <= G34.length := Nat.le_trans (gle33) gs34.1
            try simp (maxSteps := 1000000) [go_sem, hn, hj4, cj4, oj41, oj42, hj11, cj11, oj111, oj112]
            obtain ⟨_, _, _, _, ga35⟩ := trb_cells gb34_14
            obtain ⟨p1, p2, p3⟩ := ga35 rows[j4].p rows[j4].u rows[j4].w oj41 oj42
            have gka : KeepS (fun i => i = fid) G34 (G34.set (G31.length) ⟨[.int .i64 rows[j4].p, rows[j4].u, rows[j4].w], true, true⟩) := fun i hi => p3.2 i (by have := gle34; omega) (by omega)
            obtain ⟨_, _, _, _, gb35⟩ := trb_cells (p3.get gb34_15 (by omega))
            obtain ⟨q1, q2, q3⟩ := gb35 rows[j11].p rows[j11].u rows[j11].w oj111 oj112
            have la := (List.getElem?_eq_some_iff.1 gb34_14).1
            try simp (maxSteps := 1000000) [go_sem, hn, hj4, cj4, oj41, oj42, hj11, cj11, oj111, oj112, p1]
            try refine andK_intro gka ?_
            try simp (maxSteps := 1000000) [go_sem, hn, hj4, cj4, oj41, oj42, hj11, cj11, oj111, oj112, q1]
            refine hQ' (G31.length, H4.length, j4, j11) _ _ ?_ ⟨hj4, hj11, by simp only; omega, by simp only; omega, by simp only; omega, sameUp (sameUp (((((Same.refl (fun j => j = s) H4).trans (Same.of_prefix gp31)).trans (Same.of_prefix gp32)).trans gs33).trans gs34) p3 (fun j e => by omega)) q3 (fun j e => by omega), (gS34.keep p3 (fun j e => ⟨by omega, by omega⟩)).keep q3 (fun j e => ⟨by omega, by omega⟩), (q3.get p2 (by omega)).trans (by simp [List.getElem?_eq_getElem hj4, Rw.cells]), q2.trans (by simp [List.getElem?_eq_getElem hj11, Rw.cells])⟩
            simp [upF, Fr.get, Up.refl]
          · try simp (maxSteps := 1000000) [go_sem, hn]
            refine next_ok (hS4.pre gp31) _ ?_
            intro G36 y36 gs36 gl36 gS36 gy36 gz36
            obtain ⟨j4, rfl⟩ : ∃ n : Nat, y36 = n := ⟨y36.toNat, by omega⟩
            have hj4 : j4 < rows.length := by omega
            have gk36 : KeepS (fun i => i = fid) G31 G36 := fun i hi => gs36.2 i (by have := gle31; omega) (by omega)
            have gf36 := gs36.get gff31 (by omega)
            have cj4 := (row3 (Holds.at ⟨true, gf36⟩) (List.getElem?_eq_getElem hj4)).1
            simp only [Rw.cells] at cj4
            obtain ⟨kj41, kj42, _, _⟩ := hfr4 rows[j4] (List.getElem_mem hj4)
            have oj41 := kj41.one
            have oj42 := kj42.one
            have gb36_15 := gs36.get gb31 (by omega)
            have gle36 : H4.length <= G36.length := Nat.le_trans (gle31) gs36.1
            try simp (maxSteps := 1000000) [go_sem, hn, hj4, cj4, oj41, oj42]
            refine vGS_alt ?_ ?_
            · have gp37 : G36 <+: G36 ++ [(⟨[.int .i64 0, .slice none 0 0, .slice none 0 0], true, true⟩ : Blk)] := List.prefix_append _ _
              have gb37 : (G36 ++ [(⟨[.int .i64 0, .slice none 0 0, .slice none 0 0], true, true⟩ : Blk)])[G36.length]? = some ⟨[.int .i64 0, .slice none 0 0, .slice none 0 0], true, true⟩ := by simp
              have gk37 : KeepS (fun i => i = fid) G36 (G36 ++ [(⟨[.int .i64 0, .slice none 0 0, .slice none 0 0], true, true⟩ : Blk)]) := fun i hi => List.getElem?_append_left (by have := gle36; omega)
              try simp (maxSteps := 1000000) [go_sem, hn, hj4, cj4, oj41, oj42]
              have gz37 : (G36 ++ [(⟨[.int .i64 0, .slice none 0 0, .slice none 0 0], true, true⟩ : Blk)]).length = G36.length + 1 := by simp
              generalize G36 ++ [(⟨[.int .i64 0, .slice none 0 0, .slice none 0 0], true, true⟩ : Blk)] = G37 at gp37 gb37 gk37 gz37 ⊢
              refine andK_intro gk37 ?_
              have gb37_15 := pget gp37 gb36_15
              have gid37 := gle36
              have gle37 : H4.length <= G37.length := Nat.le_trans (gle36) gp37.length_le
              have glt37 : G36.length < G37.length := (List.getElem?_eq_some_iff.1 gb37).1
              have gff37 := pget gp37 gf36
              try simp (maxSteps := 1000000) [go_sem, hn, hj4, cj4, oj41, oj42]
              refine next_ok (gS36.pre gp37) _ ?_
              intro G38 y38 gs38 gl38 gS38 gy38 gz38
              obtain ⟨j11, rfl⟩ : ∃ n : Nat, y38 = n := ⟨y38.toNat, by omega⟩
              have hj11 : j11 < rows.length := by omega
              have gk38 : KeepS (fun i => i = fid) G37 G38 := fun i hi => gs38.2 i (by have := gle37; omega) (by omega)
              try simp (maxSteps := 1000000) [go_sem, hn, hj4, cj4, oj41, oj42]
              refine andK_intro gk38 ?_
              have gf38 := gs38.get gff37 (by omega)
              have cj11 := (row3 (Holds.at ⟨true, gf38⟩) (List.getElem?_eq_getElem hj11)).1
              simp only [Rw.cells] at cj11
              obtain ⟨kj111, kj112, _, _⟩ := hfr4 rows[j11] (List.getElem_mem hj11)
              have oj111 := kj111.one
              have oj112 := kj112.one
              have gb38_15 := gs38.get gb37_15 (by omega)
              have gb38_14 := gs38.get gb37 (by omega)
              have gle38 : H4.length <= G38.length := Nat.le_trans (gle37) gs38.1
              try simp (maxSteps := 1000000) [go_sem, hn, hj4, cj4, oj41, oj42, hj11, cj11, oj111, oj112]
              obtain ⟨_, _, _, _, ga39⟩ := trb_cells gb38_14
              obtain ⟨p1, p2, p3⟩ := ga39 rows[j4].p rows[j4].u rows[j4].w oj41 oj42
              have gka : KeepS (fun i => i = fid) G38 (G38.set (G36.length) ⟨[.int .i64 rows[j4].p, rows[j4].u, rows[j4].w], true, true⟩) := fun i hi => p3.2 i (by have := gle38; omega) (by omega)
              obtain ⟨_, _, _, _, gb39⟩ := trb_cells (p3.get gb38_15 (by omega))
              obtain ⟨q1, q2, q3⟩ := gb39 rows[j11].p rows[j11].u rows[j11].w oj111 oj112
              have la := (List.getElem?_eq_some_iff.1 gb38_14).1
              try simp (maxSteps := 1000000) [go_sem, hn, hj4, cj4, oj41, oj42, hj11, cj11, oj111, oj112, p1]
              try refine andK_intro gka ?_
              try simp (maxSteps := 1000000) [go_sem, hn, hj4, cj4, oj41, oj42, hj11, cj11, oj111, oj112, q1]
              refine hQ' (G36.length, H4.length, j4, j11) _ _ ?_ ⟨hj4, hj11, by simp only; omega, by simp only; omega, by simp only; omega, sameUp (sameUp (((((Same.refl (fun j => j = s) H4).trans (Same.of_prefix gp31)).trans gs36).trans (Same.of_prefix gp37)).trans gs38) p3 (fun j e => by omega)) q3 (fun j e => by omega), (gS38.keep p3 (fun j e => ⟨by omega, by omega⟩)).keep q3 (fun j e => ⟨by omega, by omega⟩), (q3.get p2 (by omega)).trans (by simp [List.getElem?_eq_getElem hj4, Rw.cells]), q2.trans (by simp [List.getElem?_eq_getElem hj11, Rw.cells])⟩
              simp [upF, Fr.get, Up.refl]
            · try simp (maxSteps := 1000000) [go_sem, hn, hj4, cj4, oj41, oj42]
              refine next_ok gS36 _ ?_
              intro G40 y40 gs40 gl40 gS40 gy40 gz40
              obtain ⟨j11, rfl⟩ : ∃ n : Nat, y40 = n := ⟨y40.toNat, by omega⟩
              have hj11 : j11 < rows.length := by omega
              have gk40 : KeepS (fun i => i = fid) G36 G40 := fun i hi => gs40.2 i (by have := gle36; omega) (by omega)
              try simp (maxSteps := 1000000) [go_sem, hn, hj4, cj4, oj41, oj42]
              refine andK_intro gk40 ?_
              have gf40 := gs40.get gf36 (by omega)
              have cj11 := (row3 (Holds.at ⟨true, gf40⟩) (List.getElem?_eq_getElem hj11)).1
              simp only [Rw.cells] at cj11
              obtain ⟨kj111, kj112, _, _⟩ := hfr4 rows[j11] (List.getElem_mem hj11)
              have oj111 := kj111.one
              have oj112 := kj112.one
              have gb40_15 := gs40.get gb36_15 (by omega)
              have gle40 : H4.length <= G40.length := Nat.le_trans (gle36) gs40.1
              try simp (maxSteps := 1000000) [go_sem, hn, hj4, cj4, oj41, oj42, hj11, cj11, oj111, oj112]
              have gx : G40 <+: G40 ++ [(⟨[.int .i64 rows[j4].p, rows[j4].u, rows[j4].w], true, true⟩ : Blk)] := List.prefix_append _ _
              have gr : (G40 ++ [(⟨[.int .i64 rows[j4].p, rows[j4].u, rows[j4].w], true, true⟩ : Blk)])[G40.length]? = some ⟨[.int .i64 rows[j4].p, rows[j4].u, rows[j4].w], true, true⟩ := by simp
              refine andK_intro (fun i hi => List.getElem?_append_left (by have := gle40; omega)) ?_
              refine andK_intro (fun i hi => by have := gle40; rw [List.getElem?_append_left (by omega), List.getElem?_append_left (by omega)]) ?_
              generalize G40 ++ [(⟨[.int .i64 rows[j4].p, rows[j4].u, rows[j4].w], true, true⟩ : Blk)] = GX at gx gr ⊢
              obtain ⟨_, _, _, _, gb⟩ := trb_cells (pget gx gb40_15)
              obtain ⟨q1, q2, q3⟩ := gb rows[j11].p rows[j11].u rows[j11].w oj111 oj112
              have la := (List.getElem?_eq_some_iff.1 gb40_15).1
              have lc := gle40
              try simp (maxSteps := 1000000) [go_sem, hn, hj4, cj4, oj41, oj42, hj11, cj11, oj111, oj112, q1]
              refine hQ' (G40.length, H4.length, j4, j11) _ _ ?_ ⟨hj4, hj11, by simp only; omega, by simp only; omega, by simp only; omega, sameUp (((((Same.refl (fun j => j = s) H4).trans (Same.of_prefix gp31)).trans gs36).trans gs40).trans (Same.of_prefix gx)) q3 (fun j e => by omega), (gS40.pre gx).keep q3 (fun j e => ⟨by omega, by omega⟩), (q3.get gr (by omega)).trans (by simp [List.getElem?_eq_getElem hj4, Rw.cells]), q2.trans (by simp [List.getElem?_eq_getElem hj11, Rw.cells])⟩
              simp [upF, Fr.get, Up.refl]
        · try simp (maxSteps := 1000000) [go_sem, hn]
          refine next_ok hS4 _ ?_
          intro G41 y41 gs41 gl41 gS41 gy41 gz41
          obtain ⟨j4, rfl⟩ : ∃ n : Nat, y41 = n := ⟨y41.toNat, by omega⟩
          have hj4 : j4 < rows.length := by omega
          have gk41 : KeepS (fun i => i = fid) H4 G41 := fun i hi => gs41.2 i (by have := (Nat.le_refl H4.length); omega) (by omega)
          have gf41 := gs41.get hf4 (by omega)
          have cj4 := (row3 (Holds.at ⟨true, gf41⟩) (List.getElem?_eq_getElem hj4)).1
          simp only [Rw.cells] at cj4
          obtain ⟨kj41, kj42, _, _⟩ := hfr4 rows[j4] (List.getElem_mem hj4)
          have oj41 := kj41.one
          have oj42 := kj42.one
          have gle41 : H4.length <= G41.length := Nat.le_trans ((Nat.le_refl H4.length)) gs41.1
          try simp (maxSteps := 1000000) [go_sem, hn, hj4, cj4, oj41, oj42]
          refine vGS_alt ?_ ?_
          · have gp42 : G41 <+: G41 ++ [(⟨[.int .i64 0, .slice none 0 0, .slice none 0 0], true, true⟩ : Blk)] := List.prefix_append _ _
            have gb42 : (G41 ++ [(⟨[.int .i64 0, .slice none 0 0, .slice none 0 0], true, true⟩ : Blk)])[G41.length]? = some ⟨[.int .i64 0, .slice none 0 0, .slice none 0 0], true, true⟩ := by simp
            have gk42 : KeepS (fun i => i = fid) G41 (G41 ++ [(⟨[.int .i64 0, .slice none 0 0, .slice none 0 0], true, true⟩ : Blk)]) := fun i hi => List.getElem?_append_left (by have := gle41; omega)
            try simp (maxSteps := 1000000) [go_sem, hn, hj4, cj4, oj41, oj42]
            have gz42 : (G41 ++ [(⟨[.int .i64 0, .slice none 0 0, .slice none 0 0], true, true⟩ : Blk)]).length = G41.length + 1 := by simp
            generalize G41 ++ [(⟨[.int .i64 0, .slice none 0 0, .slice none 0 0], true, true⟩ : Blk)] = G42 at gp42 gb42 gk42 gz42 ⊢
            refine andK_intro gk42 ?_
            have gid42 := gle41
            have gle42 : H4.length <= G42.length := Nat.le_trans (gle41) gp42.length_le
            have glt42 : G41.length < G42.length := (List.getElem?_eq_some_iff.1 gb42).1
            have gff42 := pget gp42 gf41
            try simp (maxSteps := 1000000) [go_sem, hn, hj4, cj4, oj41, oj42]
            refine vGS_alt ?_ ?_
            · have gp43 : G42 <+: G42 ++ [(⟨[.int .i64 0, .slice none 0 0, .slice none 0 0], true, true⟩ : Blk)] := List.prefix_append _ _
              have gb43 : (G42 ++ [(⟨[.int .i64 0, .slice none 0 0, .slice none 0 0], true, true⟩ : Blk)])[G42.length]? = some ⟨[.int .i64 0, .slice none 0 0, .slice none 0 0], true, true⟩ := by simp
              have gk43 : KeepS (fun i => i = fid) G42 (G42 ++ [(⟨[.int .i64 0, .slice none 0 0, .slice none 0 0], true, true⟩ : Blk)]) := fun i hi => List.getElem?_append_left (by have := gle42; omega)
              try simp (maxSteps := 1000000) [go_sem, hn, hj4, cj4, oj41, oj42]
              have gz43 : (G42 ++ [(⟨[.int .i64 0, .slice none 0 0, .slice none 0 0], true, true⟩ : Blk)]).length = G42.length + 1 := by simp
              generalize G42 ++ [(⟨[.int .i64 0, .slice none 0 0, .slice none 0 0], true, true⟩ : Blk)] = G43 at gp43 gb43 gk43 gz43 ⊢
              refine andK_intro gk43 ?_
              have gb43_14 := pget gp43 gb42
              have gid43 := gle42
              have gle43 : H4.length <= G43.length := Nat.le_trans (gle42) gp43.length_le
              have glt43 : G42.length < G43.length := (List.getElem?_eq_some_iff.1 gb43).1
              have gff43 := pget gp43 gff42
              try simp (maxSteps := 1000000) [go_sem, hn, hj4, cj4, oj41, oj42]
              refine next_ok ((gS41.pre gp42).pre gp43) _ ?_
              intro G44 y44 gs44 gl44 gS44 gy44 gz44
              obtain ⟨j11, rfl⟩ : ∃ n : Nat, y44 = n := ⟨y44.toNat, by omega⟩
              have hj11 : j11 < rows.length := by omega
              have gk44 : KeepS (fun i => i = fid) G43 G44 := fun i hi => gs44.2 i (by have := gle43; omega) (by omega)
              try simp (maxSteps := 1000000) [go_sem, hn, hj4, cj4, oj41, oj42]
              refine andK_intro gk44 ?_
              have gf44 := gs44.get gff43 (by omega)
              have cj11 := (row3 (Holds.at ⟨true, gf44⟩) (List.getElem?_eq_getElem hj11)).1
              simp only [Rw.cells] at cj11
              obtain ⟨kj111, kj112, _, _⟩ := hfr4 rows[j11] (List.getElem_mem hj11)
              have oj111 := kj111.one
              have oj112 := kj112.one
              have gb44_14 := gs44.get gb43_14 (by omega)
              have gb44_15 := gs44.get gb43 (by omega)
              have gle44 : H4.length <= G44.length := Nat.le_trans (gle43) gs44.1
              try simp (maxSteps := 1000000) [go_sem, hn, hj4, cj4, oj41, oj42, hj11, cj11, oj111, oj112]
              obtain ⟨_, _, _, _, ga45⟩ := trb_cells gb44_14
              obtain ⟨p1, p2, p3⟩ := ga45 rows[j4].p rows[j4].u rows[j4].w oj41 oj42
              have gka : KeepS (fun i => i = fid) G44 (G44.set (G41.length) ⟨[.int .i64 rows[j4].p, rows[j4].u, rows[j4].w], true, true⟩) := fun i hi => p3.2 i (by have := gle44; omega) (by omega)
              obtain ⟨_, _, _, _, gb45⟩ := trb_cells (p3.get gb44_15 (by omega))
              obtain ⟨q1, q2, q3⟩ := gb45 rows[j11].p rows[j11].u rows[j11].w oj111 oj112
              have la := (List.getElem?_eq_some_iff.1 gb44_14).1
              try simp (maxSteps := 1000000) [go_sem, hn, hj4, cj4, oj41, oj42, hj11, cj11, oj111, oj112, p1]
              try refine andK_intro gka ?_
              try simp (maxSteps := 1000000) [go_sem, hn, hj4, cj4, oj41, oj42, hj11, cj11, oj111, oj112, q1]
              refine hQ' (G41.length, G42.length, j4, j11) _ _ ?_ ⟨hj4, hj11, by simp only; omega, by simp only; omega, by simp only; omega, sameUp (sameUp (((((Same.refl (fun j => j = s) H4).trans gs41).trans (Same.of_prefix gp42)).trans (Same.of_prefix gp43)).trans gs44) p3 (fun j e => by omega)) q3 (fun j e => by omega), (gS44.keep p3 (fun j e => ⟨by omega, by omega⟩)).keep q3 (fun j e => ⟨by omega, by omega⟩), (q3.get p2 (by omega)).trans (by simp [List.getElem?_eq_getElem hj4, Rw.cells]), q2.trans (by simp [List.getElem?_eq_getElem hj11, Rw.cells])⟩
              simp [upF, Fr.get, Up.refl]
            · try simp (maxSteps := 1000000) [go_sem, hn, hj4, cj4, oj41, oj42]
              refine next_ok (gS41.pre gp42) _ ?_
              intro G46 y46 gs46 gl46 gS46 gy46 gz46
              obtain ⟨j11, rfl⟩ : ∃ n : Nat, y46 = n := ⟨y46.toNat, by omega⟩
              have hj11 : j11 < rows.length := by omega
              have gk46 : KeepS (fun i => i = fid) G42 G46 := fun i hi => gs46.2 i (by have := gle42; omega) (by omega)
              try simp (maxSteps := 1000000) [go_sem, hn, hj4, cj4, oj41, oj42]
              refine andK_intro gk46 ?_
              have gf46 := gs46.get gff42 (by omega)
              have cj11 := (row3 (Holds.at ⟨true, gf46⟩) (List.getElem?_eq_getElem hj11)).1
              simp only [Rw.cells] at cj11
              obtain ⟨kj111, kj112, _, _⟩ := hfr4 rows[j11] (List.getElem_mem hj11)
              have oj111 := kj111.one
              have oj112 := kj112.one
              have gb46_14 := gs46.get gb42 (by omega)
              have gle46 : H4.length <= G46.length := Nat.le_trans (gle42) gs46.1
              have gp47 : G46 <+: G46 ++ [(⟨[.int .i64 0, .slice none 0 0, .slice none 0 0], true, true⟩ : Blk)] := List.prefix_append _ _
              have gb47 : (G46 ++ [(⟨[.int .i64 0, .slice none 0 0, .slice none 0 0], true, true⟩ : Blk)])[G46.length]? = some ⟨[.int .i64 0, .slice none 0 0, .slice none 0 0], true, true⟩ := by simp
              have gk47 : KeepS (fun i => i = fid) G46 (G46 ++ [(⟨[.int .i64 0, .slice none 0 0, .slice none 0 0], true, true⟩ : Blk)]) := fun i hi => List.getElem?_append_left (by have := gle46; omega)
              try simp (maxSteps := 1000000) [go_sem, hn, hj4, cj4, oj41, oj42, hj11, cj11, oj111, oj112]
              have gz47 : (G46 ++ [(⟨[.int .i64 0, .slice none 0 0, .slice none 0 0], true, true⟩ : Blk)]).length = G46.length + 1 := by simp
              generalize G46 ++ [(⟨[.int .i64 0, .slice none 0 0, .slice none 0 0], true, true⟩ : Blk)] = G47 at gp47 gb47 gk47 gz47 ⊢
              refine andK_intro gk47 ?_
              have gb47_14 := pget gp47 gb46_14
              have gid47 := gle46
              have gle47 : H4.length <= G47.length := Nat.le_trans (gle46) gp47.length_le
              have glt47 : G46.length < G47.length := (List.getElem?_eq_some_iff.1 gb47).1
              have gff47 := pget gp47 gf46
              try simp (maxSteps := 1000000) [go_sem, hn, hj4, cj4, oj41, oj42, hj11, cj11, oj111, oj112]
              obtain ⟨_, _, _, _, ga48⟩ := trb_cells gb47_14
              obtain ⟨p1, p2, p3⟩ := ga48 rows[j4].p rows[j4].u rows[j4].w oj41 oj42
              have gka : KeepS (fun i => i = fid) G47 (G47.set (G41.length) ⟨[.int .i64 rows[j4].p, rows[j4].u, rows[j4].w], true, true⟩) := fun i hi => p3.2 i (by have := gle47; omega) (by omega)
              obtain ⟨_, _, _, _, gb48⟩ := trb_cells (p3.get gb47 (by omega))
              obtain ⟨q1, q2, q3⟩ := gb48 rows[j11].p rows[j11].u rows[j11].w oj111 oj112
              have la := (List.getElem?_eq_some_iff.1 gb47_14).1
              try simp (maxSteps := 1000000) [go_sem, hn, hj4, cj4, oj41, oj42, hj11, cj11, oj111, oj112, p1]
              try refine andK_intro gka ?_
              try simp (maxSteps := 1000000) [go_sem, hn, hj4, cj4, oj41, oj42, hj11, cj11, oj111, oj112, q1]
              refine hQ' (G41.length, G46.length, j4, j11) _ _ ?_ ⟨hj4, hj11, by simp only; omega, by simp only; omega, by simp only; omega, sameUp (sameUp (((((Same.refl (fun j => j = s) H4).trans gs41).trans (Same.of_prefix gp42)).trans gs46).trans (Same.of_prefix gp47)) p3 (fun j e => by omega)) q3 (fun j e => by omega), ((gS46.pre gp47).keep p3 (fun j e => ⟨by omega, by omega⟩)).keep q3 (fun j e => ⟨by omega, by omega⟩), (q3.get p2 (by omega)).trans (by simp [List.getElem?_eq_getElem hj4, Rw.cells]), q2.trans (by simp [List.getElem?_eq_getElem hj11, Rw.cells])⟩
              simp [upF, Fr.get, Up.refl]
          · try simp (maxSteps := 1000000) [go_sem, hn, hj4, cj4, oj41, oj42]
            refine vGS_alt ?_ ?_
            · have gp49 : G41 <+: G41 ++ [(⟨[.int .i64 0, .slice none 0 0, .slice none 0 0], true, true⟩ : Blk)] := List.prefix_append _ _
              have gb49 : (G41 ++ [(⟨[.int .i64 0, .slice none 0 0, .slice none 0 0], true, true⟩ : Blk)])[G41.length]? = some ⟨[.int .i64 0, .slice none 0 0, .slice none 0 0], true, true⟩ := by simp
              have gk49 : KeepS (fun i => i = fid) G41 (G41 ++ [(⟨[.int .i64 0, .slice none 0 0, .slice none 0 0], true, true⟩ : Blk)]) := fun i hi => List.getElem?_append_left (by have := gle41; omega)
              try simp (maxSteps := 1000000) [go_sem, hn, hj4, cj4, oj41, oj42]
              have gz49 : (G41 ++ [(⟨[.int .i64 0, .slice none 0 0, .slice none 0 0], true, true⟩ : Blk)]).length = G41.length + 1 := by simp
              generalize G41 ++ [(⟨[.int .i64 0, .slice none 0 0, .slice none 0 0], true, true⟩ : Blk)] = G49 at gp49 gb49 gk49 gz49 ⊢
              refine andK_intro gk49 ?_
              have gid49 := gle41
              have gle49 : H4.length <= G49.length := Nat.le_trans (gle41) gp49.length_le
              have glt49 : G41.length < G49.length := (List.getElem?_eq_some_iff.1 gb49).1
              have gff49 := pget gp49 gf41
              try simp (maxSteps := 1000000) [go_sem, hn, hj4, cj4, oj41, oj42]
              refine vGS_alt ?_ ?_
              · have gp50 : G49 <+: G49 ++ [(⟨[.int .i64 0, .slice none 0 0, .slice none 0 0], true, true⟩ : Blk)] := List.prefix_append _ _
                have gb50 : (G49 ++ [(⟨[.int .i64 0, .slice none 0 0, .slice none 0 0], true, true⟩ : Blk)])[G49.length]? = some ⟨[.int .i64 0, .slice none 0 0, .slice none 0 0], true, true⟩ := by simp
                have gk50 : KeepS (fun i => i = fid) G49 (G49 ++ [(⟨[.int .i64 0, .slice none 0 0, .slice none 0 0], true, true⟩ : Blk)]) := fun i hi => List.getElem?_append_left (by have := gle49; omega)
                try simp (maxSteps := 1000000) [go_sem, hn, hj4, cj4, oj41, oj42]
                have gz50 : (G49 ++ [(⟨[.int .i64 0, .slice none 0 0, .slice none 0 0], true, true⟩ : Blk)]).length = G49.length + 1 := by simp
                generalize G49 ++ [(⟨[.int .i64 0, .slice none 0 0, .slice none 0 0], true, true⟩ : Blk)] = G50 at gp50 gb50 gk50 gz50 ⊢
                refine andK_intro gk50 ?_
                have gb50_15 := pget gp50 gb49
                have gid50 := gle49
                have gle50 : H4.length <= G50.length := Nat.le_trans (gle49) gp50.length_le
                have glt50 : G49.length < G50.length := (List.getElem?_eq_some_iff.1 gb50).1
                have gff50 := pget gp50 gff49
                try simp (maxSteps := 1000000) [go_sem, hn, hj4, cj4, oj41, oj42]
                refine next_ok ((gS41.pre gp49).pre gp50) _ ?_
                intro G51 y51 gs51 gl51 gS51 gy51 gz51
                obtain ⟨j11, rfl⟩ : ∃ n : Nat, y51 = n := ⟨y51.toNat, by omega⟩
                have hj11 : j11 < rows.length := by omega
                have gk51 : KeepS (fun i => i = fid) G50 G51 := fun i hi => gs51.2 i (by have := gle50; omega) (by omega)
                try simp (maxSteps := 1000000) [go_sem, hn, hj4, cj4, oj41, oj42]
                refine andK_intro gk51 ?_
                have gf51 := gs51.get gff50 (by omega)
                have cj11 := (row3 (Holds.at ⟨true, gf51⟩) (List.getElem?_eq_getElem hj11)).1
                simp only [Rw.cells] at cj11
                obtain ⟨kj111, kj112, _, _⟩ := hfr4 rows[j11] (List.getElem_mem hj11)
                have oj111 := kj111.one
                have oj112 := kj112.one
                have gb51_15 := gs51.get gb50_15 (by omega)
                have gb51_14 := gs51.get gb50 (by omega)
                have gle51 : H4.length <= G51.length := Nat.le_trans (gle50) gs51.1
                try simp (maxSteps := 1000000) [go_sem, hn, hj4, cj4, oj41, oj42, hj11, cj11, oj111, oj112]
                obtain ⟨_, _, _, _, ga52⟩ := trb_cells gb51_14
                obtain ⟨p1, p2, p3⟩ := ga52 rows[j4].p rows[j4].u rows[j4].w oj41 oj42
                have gka : KeepS (fun i => i = fid) G51 (G51.set (G49.length) ⟨[.int .i64 rows[j4].p, rows[j4].u, rows[j4].w], true, true⟩) := fun i hi => p3.2 i (by have := gle51; omega) (by omega)
                obtain ⟨_, _, _, _, gb52⟩ := trb_cells (p3.get gb51_15 (by omega))
                obtain ⟨q1, q2, q3⟩ := gb52 rows[j11].p rows[j11].u rows[j11].w oj111 oj112
                have la := (List.getElem?_eq_some_iff.1 gb51_14).1
                try simp (maxSteps := 1000000) [go_sem, hn, hj4, cj4, oj41, oj42, hj11, cj11, oj111, oj112, p1]
                try refine andK_intro gka ?_
                try simp (maxSteps := 1000000) [go_sem, hn, hj4, cj4, oj41, oj42, hj11, cj11, oj111, oj112, q1]
                refine hQ' (G49.length, G41.length, j4, j11) _ _ ?_ ⟨hj4, hj11, by simp only; omega, by simp only; omega, by simp only; omega, sameUp (sameUp (((((Same.refl (fun j => j = s) H4).trans gs41).trans (Same.of_prefix gp49)).trans (Same.of_prefix gp50)).trans gs51) p3 (fun j e => by omega)) q3 (fun j e => by omega), (gS51.keep p3 (fun j e => ⟨by omega, by omega⟩)).keep q3 (fun j e => ⟨by omega, by omega⟩), (q3.get p2 (by omega)).trans (by simp [List.getElem?_eq_getElem hj4, Rw.cells]), q2.trans (by simp [List.getElem?_eq_getElem hj11, Rw.cells])⟩
                simp [upF, Fr.get, Up.refl]
              · try simp (maxSteps := 1000000) [go_sem, hn, hj4, cj4, oj41, oj42]
                refine next_ok (gS41.pre gp49) _ ?_
                intro G53 y53 gs53 gl53 gS53 gy53 gz53
                obtain ⟨j11, rfl⟩ : ∃ n : Nat, y53 = n := ⟨y53.toNat, by omega⟩
                have hj11 : j11 < rows.length := by omega
                have gk53 : KeepS (fun i => i = fid) G49 G53 := fun i hi => gs53.2 i (by have := gle49; omega) (by omega)
                try simp (maxSteps := 1000000) [go_sem, hn, hj4, cj4, oj41, oj42]
                refine andK_intro gk53 ?_
                have gf53 := gs53.get gff49 (by omega)
                have cj11 := (row3 (Holds.at ⟨true, gf53⟩) (List.getElem?_eq_getElem hj11)).1
                simp only [Rw.cells] at cj11
                obtain ⟨kj111, kj112, _, _⟩ := hfr4 rows[j11] (List.getElem_mem hj11)
                have oj111 := kj111.one
                have oj112 := kj112.one
                have gb53_15 := gs53.get gb49 (by omega)
                have gle53 : H4.length <= G53.length := Nat.le_trans (gle49) gs53.1
                try simp (maxSteps := 1000000) [go_sem, hn, hj4, cj4, oj41, oj42, hj11, cj11, oj111, oj112]
                have gx : G53 <+: G53 ++ [(⟨[.int .i64 rows[j4].p, rows[j4].u, rows[j4].w], true, true⟩ : Blk)] := List.prefix_append _ _
                have gr : (G53 ++ [(⟨[.int .i64 rows[j4].p, rows[j4].u, rows[j4].w], true, true⟩ : Blk)])[G53.length]? = some ⟨[.int .i64 rows[j4].p, rows[j4].u, rows[j4].w], true, true⟩ := by simp
                refine andK_intro (fun i hi => List.getElem?_append_left (by have := gle53; omega)) ?_
                refine andK_intro (fun i hi => by have := gle53; rw [List.getElem?_append_left (by omega), List.getElem?_append_left (by omega)]) ?_
                generalize G53 ++ [(⟨[.int .i64 rows[j4].p, rows[j4].u, rows[j4].w], true, true⟩ : Blk)] = GX at gx gr ⊢
                obtain ⟨_, _, _, _, gb⟩ := trb_cells (pget gx gb53_15)
                obtain ⟨q1, q2, q3⟩ := gb rows[j11].p rows[j11].u rows[j11].w oj111 oj112
                have la := (List.getElem?_eq_some_iff.1 gb53_15).1
                have lc := gle53
                try simp (maxSteps := 1000000) [go_sem, hn, hj4, cj4, oj41, oj42, hj11, cj11, oj111, oj112, q1]
                refine hQ' (G53.length, G41.length, j4, j11) _ _ ?_ ⟨hj4, hj11, by simp only; omega, by simp only; omega, by simp only; omega, sameUp (((((Same.refl (fun j => j = s) H4).trans gs41).trans (Same.of_prefix gp49)).trans gs53).trans (Same.of_prefix gx)) q3 (fun j e => by omega), (gS53.pre gx).keep q3 (fun j e => ⟨by omega, by omega⟩), (q3.get gr (by omega)).trans (by simp [List.getElem?_eq_getElem hj4, Rw.cells]), q2.trans (by simp [List.getElem?_eq_getElem hj11, Rw.cells])⟩
                simp [upF, Fr.get, Up.refl]
            · try simp (maxSteps := 1000000) [go_sem, hn, hj4, cj4, oj41, oj42]
              refine next_ok gS41 _ ?_
              intro G54 y54 gs54 gl54 gS54 gy54 gz54
              obtain ⟨j11, rfl⟩ : ∃ n : Nat, y54 = n := ⟨y54.toNat, by omega⟩
              have hj11 : j11 < rows.length := by omega
              have gk54 : KeepS (fun i => i = fid) G41 G54 := fun i hi => gs54.2 i (by have := gle41; omega) (by omega)
              try simp (maxSteps := 1000000) [go_sem, hn, hj4, cj4, oj41, oj42]
              refine andK_intro gk54 ?_
              have gf54 := gs54.get gf41 (by omega)
              have cj11 := (row3 (Holds.at ⟨true, gf54⟩) (List.getElem?_eq_getElem hj11)).1
              simp only [Rw.cells] at cj11
              obtain ⟨kj111, kj112, _, _⟩ := hfr4 rows[j11] (List.getElem_mem hj11)
              have oj111 := kj111.one
              have oj112 := kj112.one
              have gle54 : H4.length <= G54.length := Nat.le_trans (gle41) gs54.1
              try simp (maxSteps := 1000000) [go_sem, hn, hj4, cj4, oj41, oj42, hj11, cj11, oj111, oj112]
              refine vGS_alt ?_ ?_
              · try simp (maxSteps := 1000000) [go_sem, hn, hj4, cj4, oj41, oj42, hj11, cj11, oj111, oj112]
                have gx : G54 <+: G54 ++ [(⟨[.int .i64 rows[j11].p, rows[j11].u, rows[j11].w], true, true⟩ : Blk), ⟨[.int .i64 rows[j4].p, rows[j4].u, rows[j4].w], true, true⟩] := List.prefix_append _ _
                refine andK_intro (fun i hi => List.getElem?_append_left (by have := gle54; omega)) ?_
                refine andK_intro (fun i hi => by have := gle54; rw [List.getElem?_append_left (by omega), List.getElem?_append_left (by omega)]) ?_
                refine andK_intro (fun i hi => by have := gle54; rw [List.getElem?_append_left (by omega), List.getElem?_append_left (by omega)]) ?_
                have lc := gle54
                refine hQ' (G54.length + 1, G54.length, j4, j11) _ _ ?_ ⟨hj4, hj11, by simp only; omega, by simp only; omega, by simp only; omega, (((Same.refl (fun j => j = s) H4).trans gs41).trans gs54).trans (Same.of_prefix gx), gS54.pre gx, by simp [List.getElem?_eq_getElem hj4, Rw.cells], by simp [List.getElem?_eq_getElem hj11, Rw.cells]⟩
                simp [upF, Fr.get, Up.refl]
              · try simp (maxSteps := 1000000) [go_sem, hn, hj4, cj4, oj41, oj42, hj11, cj11, oj111, oj112]
                have gx : G54 <+: G54 ++ [(⟨[.int .i64 rows[j4].p, rows[j4].u, rows[j4].w], true, true⟩ : Blk), ⟨[.int .i64 rows[j11].p, rows[j11].u, rows[j11].w], true, true⟩] := List.prefix_append _ _
                refine andK_intro (fun i hi => List.getElem?_append_left (by have := gle54; omega)) ?_
                refine andK_intro (fun i hi => by have := gle54; rw [List.getElem?_append_left (by omega), List.getElem?_append_left (by omega)]) ?_
                refine andK_intro (fun i hi => by have := gle54; rw [List.getElem?_append_left (by omega), List.getElem?_append_left (by omega)]) ?_
                have lc := gle54
                refine hQ' (G54.length, G54.length + 1, j4, j11) _ _ ?_ ⟨hj4, hj11, by simp only; omega, by simp only; omega, by simp only; omega, (((Same.refl (fun j => j = s) H4).trans gs41).trans gs54).trans (Same.of_prefix gx), gS54.pre gx, by simp [List.getElem?_eq_getElem hj4, Rw.cells], by simp [List.getElem?_eq_getElem hj11, Rw.cells]⟩
                simp [upF, Fr.get, Up.refl]
    rintro ⟨ia, ib, ja, jb⟩ H5 ⟨hja, hjb, hia, hib, hne, hs5, hS5, hba, hbb⟩
    simp only at hja hjb hia hib hne hba hbb
    obtain ⟨a1, a2, la1, la2⟩ := hfr4 rows[ja] (List.getElem_mem hja)
    obtain ⟨b1', b2', lb1, lb2⟩ := hfr4 rows[jb] (List.getElem_mem hjb)
    rw [List.getElem?_eq_getElem hja] at hba
    rw [List.getElem?_eq_getElem hjb] at hbb
    simp only [Option.map_some, Rw.cells] at hba hbb
    obtain ⟨ra, hra⟩ : ∃ r, rows[ja] = r := ⟨_, rfl⟩
    obtain ⟨rb, hrb⟩ : ∃ r, rows[jb] = r := ⟨_, rfl⟩
    rw [hra] at a1 a2 la1 la2 hba
    rw [hrb] at b1' b2' lb1 lb2 hbb
    replace a1 := a1.keep hs5 (fun j hj e => by omega)
    replace a2 := a2.keep hs5 (fun j hj e => by omega)
    replace b1' := b1'.keep hs5 (fun j hj e => by omega)
    replace b2' := b2'.keep hs5 (fun j hj e => by omega)
    have ou1 := a1.one
    have ou2 := a2.one
    have ou3 := b1'.one
    have ou4 := b2'.one
    obtain ⟨ka1, oa1, ea1, sa1⟩ := a1.src4 la1
    obtain ⟨ka2, oa2, ea2, sa2⟩ := a2.src4 la2
    obtain ⟨kb1, ob1, eb1, sb1⟩ := b1'.src4 lb1
    obtain ⟨kb2, ob2, eb2, sb2⟩ := b2'.src4 lb2
    rw [ea1, ea2] at hba
    rw [eb1, eb2] at hbb
    have hia5 := (List.getElem?_eq_some_iff.1 hba).1
    have hib5 := (List.getElem?_eq_some_iff.1 hbb).1
    obtain ⟨_, ca0, ca1, ca2, _⟩ := trb_cells hba
    obtain ⟨_, cb0, cb1, cb2, _⟩ := trb_cells hbb
    refine AWp.regCut (St := Nat × Int × Value × Value × List Bk × List Bk) (fun z => [(11, .pointer (some ⟨z.1, 0, none⟩))])
      (fun z H' => Same (fun j => H5.length <= j) H5 H' /\ H'[z.1]? = some ⟨[.int .i64 z.2.1, z.2.2.1, z.2.2.2.1], true, true⟩ /\ RIn H5.length H' z.2.2.1 z.2.2.2.2.1 /\ RIn H5.length H' z.2.2.2.1 z.2.2.2.2.2 /\ z.2.2.2.2.1.length = 8 /\ z.2.2.2.2.2.length = 8 /\ H5.length <= z.1) ?_ ?_
    · intro Q' hQ'
      have endm : ∀ (b m : Nat) (H' : Heap) (fr' : Fr) (va vb : Value) (o i : List Bk), H5.length <= b -> H5.length <= m -> Same (fun j => H5.length <= j) H5 H' -> H'[b]? = some ⟨[.int .i64 ra.p, va, vb], true, true⟩ -> RIn m H' va o -> RIn m H' vb i -> o.length = 8 -> i.length = 8 -> upF H' ([(11, .pointer (some ⟨b, 0, none⟩))] ++ _) fr' -> Q' .normal fr' H' := fun b m H' fr' va vb o i g1 g2 g3 g4 g5 g6 g7 g8 g9 =>
        hQ' (b, ra.p, va, vb, o, i) fr' H' g9 ⟨g3, g4, g5.wider g2, g6.wider g2, g7, g8, g1⟩
      refine AWp.drawGS (fun i => i < H5.length) mixed [9, 17] [(0, false), (1, false), (3, false), (4, false), (6, false), (7, false), (10, false), (11, false), (13, false), (14, false), (2, true), (5, true), (8, true), (9, true), (12, true), (15, true), (16, false), (17, true), (18, false)] (.one 0 false (.one 1 false (.one 3 false (.one 4 false (.one 6 false (.one 7 false (.one 10 false (.one 11 false (.one 13 false (.one 14 false (.alt 9 (.alt 17 (.one 2 true (.one 5 true (.one 8 true (.one 12 true (.one 15 true (.one 16 false (.one 18 false .nil))))))) (.one 2 true (.alt 17 (.one 5 true (.one 8 true (.one 12 true (.one 15 true (.one 16 false (.one 18 false .nil)))))) (.one 5 true (.alt 17 (.one 8 true (.one 12 true (.one 15 true (.one 16 false (.one 18 false .nil))))) (.one 8 true (.alt 17 (.one 12 true (.one 15 true (.one 16 false (.one 18 false .nil)))) (.one 12 true (.alt 17 (.one 15 true (.one 16 false (.one 18 false .nil))) (.one 15 true (.alt 17 (.one 16 false (.one 18 false .nil)) (.one 16 false (.one 17 true (.one 18 false .nil)))))))))))))) (.alt 17 (.alt 9 (.one 2 true (.one 5 true (.one 8 true (.one 12 true (.one 15 true (.one 16 false (.one 18 false .nil))))))) (.one 2 true (.alt 9 (.one 5 true (.one 8 true (.one 12 true (.one 15 true (.one 16 false (.one 18 false .nil)))))) (.one 5 true (.alt 9 (.one 8 true (.one 12 true (.one 15 true (.one 16 false (.one 18 false .nil))))) (.one 8 true (.one 9 true (.one 12 true (.one 15 true (.one 16 false (.one 18 false .nil))))))))))) (.one 2 true (.alt 9 (.alt 17 (.one 5 true (.one 8 true (.one 12 true (.one 15 true (.one 16 false (.one 18 false .nil)))))) (.one 5 true (.alt 17 (.one 8 true (.one 12 true (.one 15 true (.one 16 false (.one 18 false .nil))))) (.one 8 true (.alt 17 (.one 12 true (.one 15 true (.one 16 false (.one 18 false .nil)))) (.one 12 true (.alt 17 (.one 15 true (.one 16 false (.one 18 false .nil))) (.one 15 true (.alt 17 (.one 16 false (.one 18 false .nil)) (.one 16 false (.one 17 true (.one 18 false .nil)))))))))))) (.alt 17 (.alt 9 (.one 5 true (.one 8 true (.one 12 true (.one 15 true (.one 16 false (.one 18 false .nil)))))) (.one 5 true (.alt 9 (.one 8 true (.one 12 true (.one 15 true (.one 16 false (.one 18 false .nil))))) (.one 8 true (.one 9 true (.one 12 true (.one 15 true (.one 16 false (.one 18 false .nil))))))))) (.one 5 true (.alt 9 (.alt 17 (.one 8 true (.one 12 true (.one 15 true (.one 16 false (.one 18 false .nil))))) (.one 8 true (.alt 17 (.one 12 true (.one 15 true (.one 16 false (.one 18 false .nil)))) (.one 12 true (.alt 17 (.one 15 true (.one 16 false (.one 18 false .nil))) (.one 15 true (.alt 17 (.one 16 false (.one 18 false .nil)) (.one 16 false (.one 17 true (.one 18 false .nil)))))))))) (.alt 17 (.alt 9 (.one 8 true (.one 12 true (.one 15 true (.one 16 false (.one 18 false .nil))))) (.one 8 true (.one 9 true (.one 12 true (.one 15 true (.one 16 false (.one 18 false .nil))))))) (.one 8 true (.alt 17 (.one 9 true (.one 12 true (.one 15 true (.one 16 false (.one 18 false .nil))))) (.one 9 true (.alt 17 (.one 12 true (.one 15 true (.one 16 false (.one 18 false .nil)))) (.one 12 true (.alt 17 (.one 15 true (.one 16 false (.one 18 false .nil))) (.one 15 true (.alt 17 (.one 16 false (.one 18 false .nil)) (.one 16 false (.one 17 true (.one 18 false .nil))))))))))))))))))))))))))))) (by kernel_rfl) ?_
      clear fin fin0 rowc hfr4 hba hbb hs4 hS4 hS5 hs5
      simp (maxSteps := 1000000) [go_sem, hia5, hib5, ca0, ca1, ca2, cb1, cb2, ou1, ou2, ou3, ou4]
      try simp (maxSteps := 1000000) [go_sem, hia5, hib5, ca0, ca1, ca2, cb1, cb2, ou1, ou2, ou3, ou4]
      refine vGS_alt ?_ ?_
      · have gp1 : H5 <+: H5 ++ [(⟨[], true, true⟩ : Blk)] := List.prefix_append _ _
        have gb1_9 : (H5 ++ [(⟨[], true, true⟩ : Blk)])[H5.length]? = some ⟨[], true, true⟩ := by simp
        have gz1 : (H5 ++ [(⟨[], true, true⟩ : Blk)]).length = H5.length + 1 := by simp
        try simp (maxSteps := 1000000) [go_sem, hia5, hib5, ca0, ca1, ca2, cb1, cb2, ou1, ou2, ou3, ou4]
        refine andK_intro (fun i hi => List.getElem?_append_left (by have hi : i < H5.length := hi; omega)) ?_
        generalize H5 ++ [(⟨[], true, true⟩ : Blk)] = G1 at gp1 gb1_9 gz1 ⊢
        have sm1 := (Same.refl (fun j => H5.length <= j) H5).trans (Same.of_prefix gp1)
        try simp (maxSteps := 1000000) [go_sem, hia5, hib5, ca0, ca1, ca2, cb1, cb2, ou1, ou2, ou3, ou4]
        refine vGS_alt ?_ ?_
        · have gp2 : G1 <+: G1 ++ [(⟨[.int .i64 0, .slice none 0 0, .slice none 0 0], true, true⟩ : Blk), ⟨[], true, true⟩] := List.prefix_append _ _
          have gb2_17 : (G1 ++ [(⟨[.int .i64 0, .slice none 0 0, .slice none 0 0], true, true⟩ : Blk), ⟨[], true, true⟩])[G1.length]? = some ⟨[.int .i64 0, .slice none 0 0, .slice none 0 0], true, true⟩ := by simp
          have gb2_2 : (G1 ++ [(⟨[.int .i64 0, .slice none 0 0, .slice none 0 0], true, true⟩ : Blk), ⟨[], true, true⟩])[G1.length + 1]? = some ⟨[], true, true⟩ := by simp
          have gz2 : (G1 ++ [(⟨[.int .i64 0, .slice none 0 0, .slice none 0 0], true, true⟩ : Blk), ⟨[], true, true⟩]).length = G1.length + 2 := by simp
          try simp (maxSteps := 1000000) [go_sem, hia5, hib5, ca0, ca1, ca2, cb1, cb2, ou1, ou2, ou3, ou4]
          refine andK_intro (fun i hi => List.getElem?_append_left (by have hi : i < H5.length := hi; omega)) ?_
          refine andK_intro (fun i hi => by have hi : i < H5.length := hi; rw [List.getElem?_append_left (by omega), List.getElem?_append_left (by omega)]) ?_
          generalize G1 ++ [(⟨[.int .i64 0, .slice none 0 0, .slice none 0 0], true, true⟩ : Blk), ⟨[], true, true⟩] = G2 at gp2 gb2_17 gb2_2 gz2 ⊢
          have gt2_9 := pget gp2 gb1_9
          have sm2 := sm1.trans (Same.of_prefix gp2)
          have gc3 := sa1 G2 sm2
          obtain ⟨G3, ga3, gl3, gp3, gz3⟩ := app4 gb2_2 (bs := ra.o) la1
          have gt3_9 := pget gp3 gt2_9
          have gt3_17 := pget gp3 gb2_17
          have sm3 := sm2.trans (Same.of_prefix gp3)
          try simp (maxSteps := 1000000) [go_sem, hia5, hib5, ca0, ca1, ca2, cb1, cb2, ou1, ou2, ou3, ou4, gc3, ga3]
          refine andK_intro (fun i hi => by have hi : i < H5.length := hi; exact (Same.of_prefix (S := fun _ => False) gp3).2 i (by omega) (fun e => e)) ?_
          have gc4 := sb1 G3 sm3
          obtain ⟨G4, ga4, gl4, gs4, gz4⟩ := app8 gl3 (bs := rb.o) lb1
          have gt4_9 := Same.get gs4 gt3_9 (by omega)
          have gt4_17 := Same.get gs4 gt3_17 (by omega)
          have sm4 := sm3.trans (gs4.mono (fun j _ e => show H5.length <= j by omega))
          try simp (maxSteps := 1000000) [go_sem, hia5, hib5, ca0, ca1, ca2, cb1, cb2, ou1, ou2, ou3, ou4, gc4, ga4]
          refine andK_intro (fun i hi => by have hi : i < H5.length := hi; exact gs4.2 i (by omega) (by omega)) ?_
          have gc5 := sa2 G4 sm4
          obtain ⟨G5, ga5, gl5, gp5, gz5⟩ := app4 gt4_9 (bs := ra.i) la2
          have gt5_17 := pget gp5 gt4_17
          have gt5_2 := (gl4).keep (S := fun _ => False) (Same.of_prefix gp5) (fun e => e)
          have sm5 := sm4.trans (Same.of_prefix gp5)
          try simp (maxSteps := 1000000) [go_sem, hia5, hib5, ca0, ca1, ca2, cb1, cb2, ou1, ou2, ou3, ou4, gc5, ga5]
          refine andK_intro (fun i hi => by have hi : i < H5.length := hi; exact (Same.of_prefix (S := fun _ => False) gp5).2 i (by omega) (fun e => e)) ?_
          have gc6 := sb2 G5 sm5
          obtain ⟨G6, ga6, gl6, gs6, gz6⟩ := app8 gl5 (bs := rb.i) lb2
          have gt6_17 := Same.get gs6 gt5_17 (by omega)
          have gt6_2 := (gt5_2).keep gs6 (by omega)
          have sm6 := sm5.trans (gs6.mono (fun j _ e => show H5.length <= j by omega))
          try simp (maxSteps := 1000000) [go_sem, hia5, hib5, ca0, ca1, ca2, cb1, cb2, ou1, ou2, ou3, ou4, gc6, ga6]
          refine andK_intro (fun i hi => by have hi : i < H5.length := hi; exact gs6.2 i (by omega) (by omega)) ?_
          try simp (maxSteps := 1000000) [go_sem, hia5, hib5, ca0, ca1, ca2, cb1, cb2, ou1, ou2, ou3, ou4]
          refine l04Made_ok (OL.read8 gt6_2 la1 lb1) (OL.read8 gl6 la2 lb2) (by simp only [List.length_append]; omega) (by simp only [List.length_append]; omega) _ ?_
          intro G7 va vb gp7 hab
          have gle7 := gp7.length_le
          have oneab : va.oneCell' = true /\ vb.oneCell' = true := ⟨hab.read.1.one, hab.read.2.one⟩
          obtain ⟨r1, r2⟩ := hab.rin
          have gbx := pget gp7 gt6_17
          obtain ⟨_, _, _, _, g⟩ := trb_cells gbx
          obtain ⟨q1, q2, q3⟩ := g ra.p va vb oneab.1 oneab.2
          simp (maxSteps := 1000000) [go_sem, hia5, hib5, ca0, ca1, ca2, cb1, cb2, ou1, ou2, ou3, ou4, tradeV, oneab.1, oneab.2, q1]
          exact endm G1.length G6.length _ _ va vb _ _ (by omega) (by omega) ((sm6.trans (Same.of_prefix gp7)).trans (q3.mono (fun j _ e => by omega))) q2 (r1.keep q3 (fun j hj e => by omega)) (r2.keep q3 (fun j hj e => by omega)) (by rw [sortB_len]; simp only [List.length_append]; omega) (by rw [sortB_len]; simp only [List.length_append]; omega) (by simp [upF, Fr.get, Up.refl])
        · have gp8 : G1 <+: G1 ++ [(⟨[], true, true⟩ : Blk)] := List.prefix_append _ _
          have gb8_2 : (G1 ++ [(⟨[], true, true⟩ : Blk)])[G1.length]? = some ⟨[], true, true⟩ := by simp
          have gz8 : (G1 ++ [(⟨[], true, true⟩ : Blk)]).length = G1.length + 1 := by simp
          try simp (maxSteps := 1000000) [go_sem, hia5, hib5, ca0, ca1, ca2, cb1, cb2, ou1, ou2, ou3, ou4]
          refine andK_intro (fun i hi => List.getElem?_append_left (by have hi : i < H5.length := hi; omega)) ?_
          generalize G1 ++ [(⟨[], true, true⟩ : Blk)] = G8 at gp8 gb8_2 gz8 ⊢
          have gt8_9 := pget gp8 gb1_9
          have sm8 := sm1.trans (Same.of_prefix gp8)
          try simp (maxSteps := 1000000) [go_sem, hia5, hib5, ca0, ca1, ca2, cb1, cb2, ou1, ou2, ou3, ou4]
          refine vGS_alt ?_ ?_
          · have gp9 : G8 <+: G8 ++ [(⟨[.int .i64 0, .slice none 0 0, .slice none 0 0], true, true⟩ : Blk)] := List.prefix_append _ _
            have gb9_17 : (G8 ++ [(⟨[.int .i64 0, .slice none 0 0, .slice none 0 0], true, true⟩ : Blk)])[G8.length]? = some ⟨[.int .i64 0, .slice none 0 0, .slice none 0 0], true, true⟩ := by simp
            have gz9 : (G8 ++ [(⟨[.int .i64 0, .slice none 0 0, .slice none 0 0], true, true⟩ : Blk)]).length = G8.length + 1 := by simp
            try simp (maxSteps := 1000000) [go_sem, hia5, hib5, ca0, ca1, ca2, cb1, cb2, ou1, ou2, ou3, ou4]
            refine andK_intro (fun i hi => List.getElem?_append_left (by have hi : i < H5.length := hi; omega)) ?_
            generalize G8 ++ [(⟨[.int .i64 0, .slice none 0 0, .slice none 0 0], true, true⟩ : Blk)] = G9 at gp9 gb9_17 gz9 ⊢
            have gt9_9 := pget gp9 gt8_9
            have gt9_2 := pget gp9 gb8_2
            have sm9 := sm8.trans (Same.of_prefix gp9)
            have gc10 := sa1 G9 sm9
            obtain ⟨G10, ga10, gl10, gp10, gz10⟩ := app4 gt9_2 (bs := ra.o) la1
            have gt10_9 := pget gp10 gt9_9
            have gt10_17 := pget gp10 gb9_17
            have sm10 := sm9.trans (Same.of_prefix gp10)
            try simp (maxSteps := 1000000) [go_sem, hia5, hib5, ca0, ca1, ca2, cb1, cb2, ou1, ou2, ou3, ou4, gc10, ga10]
            refine andK_intro (fun i hi => by have hi : i < H5.length := hi; exact (Same.of_prefix (S := fun _ => False) gp10).2 i (by omega) (fun e => e)) ?_
            have gc11 := sb1 G10 sm10
            obtain ⟨G11, ga11, gl11, gs11, gz11⟩ := app8 gl10 (bs := rb.o) lb1
            have gt11_9 := Same.get gs11 gt10_9 (by omega)
            have gt11_17 := Same.get gs11 gt10_17 (by omega)
            have sm11 := sm10.trans (gs11.mono (fun j _ e => show H5.length <= j by omega))
            try simp (maxSteps := 1000000) [go_sem, hia5, hib5, ca0, ca1, ca2, cb1, cb2, ou1, ou2, ou3, ou4, gc11, ga11]
            refine andK_intro (fun i hi => by have hi : i < H5.length := hi; exact gs11.2 i (by omega) (by omega)) ?_
            have gc12 := sa2 G11 sm11
            obtain ⟨G12, ga12, gl12, gp12, gz12⟩ := app4 gt11_9 (bs := ra.i) la2
            have gt12_17 := pget gp12 gt11_17
            have gt12_2 := (gl11).keep (S := fun _ => False) (Same.of_prefix gp12) (fun e => e)
            have sm12 := sm11.trans (Same.of_prefix gp12)
            try simp (maxSteps := 1000000) [go_sem, hia5, hib5, ca0, ca1, ca2, cb1, cb2, ou1, ou2, ou3, ou4, gc12, ga12]
            refine andK_intro (fun i hi => by have hi : i < H5.length := hi; exact (Same.of_prefix (S := fun _ => False) gp12).2 i (by omega) (fun e => e)) ?_
            have gc13 := sb2 G12 sm12
            obtain ⟨G13, ga13, gl13, gs13, gz13⟩ := app8 gl12 (bs := rb.i) lb2
            have gt13_17 := Same.get gs13 gt12_17 (by omega)
            have gt13_2 := (gt12_2).keep gs13 (by omega)
            have sm13 := sm12.trans (gs13.mono (fun j _ e => show H5.length <= j by omega))
            try simp (maxSteps := 1000000) [go_sem, hia5, hib5, ca0, ca1, ca2, cb1, cb2, ou1, ou2, ou3, ou4, gc13, ga13]
            refine andK_intro (fun i hi => by have hi : i < H5.length := hi; exact gs13.2 i (by omega) (by omega)) ?_
            try simp (maxSteps := 1000000) [go_sem, hia5, hib5, ca0, ca1, ca2, cb1, cb2, ou1, ou2, ou3, ou4]
            refine l04Made_ok (OL.read8 gt13_2 la1 lb1) (OL.read8 gl13 la2 lb2) (by simp only [List.length_append]; omega) (by simp only [List.length_append]; omega) _ ?_
            intro G14 va vb gp14 hab
            have gle14 := gp14.length_le
            have oneab : va.oneCell' = true /\ vb.oneCell' = true := ⟨hab.read.1.one, hab.read.2.one⟩
            obtain ⟨r1, r2⟩ := hab.rin
            have gbx := pget gp14 gt13_17
            obtain ⟨_, _, _, _, g⟩ := trb_cells gbx
            obtain ⟨q1, q2, q3⟩ := g ra.p va vb oneab.1 oneab.2
            simp (maxSteps := 1000000) [go_sem, hia5, hib5, ca0, ca1, ca2, cb1, cb2, ou1, ou2, ou3, ou4, tradeV, oneab.1, oneab.2, q1]
            exact endm G8.length G13.length _ _ va vb _ _ (by omega) (by omega) ((sm13.trans (Same.of_prefix gp14)).trans (q3.mono (fun j _ e => by omega))) q2 (r1.keep q3 (fun j hj e => by omega)) (r2.keep q3 (fun j hj e => by omega)) (by rw [sortB_len]; simp only [List.length_append]; omega) (by rw [sortB_len]; simp only [List.length_append]; omega) (by simp [upF, Fr.get, Up.refl])
          · have gc15 := sa1 G8 sm8
            obtain ⟨G15, ga15, gl15, gp15, gz15⟩ := app4 gb8_2 (bs := ra.o) la1
            have gt15_9 := pget gp15 gt8_9
            have sm15 := sm8.trans (Same.of_prefix gp15)
            try simp (maxSteps := 1000000) [go_sem, hia5, hib5, ca0, ca1, ca2, cb1, cb2, ou1, ou2, ou3, ou4, gc15, ga15]
            refine andK_intro (fun i hi => by have hi : i < H5.length := hi; exact (Same.of_prefix (S := fun _ => False) gp15).2 i (by omega) (fun e => e)) ?_
            try simp (maxSteps := 1000000) [go_sem, hia5, hib5, ca0, ca1, ca2, cb1, cb2, ou1, ou2, ou3, ou4]
            refine vGS_alt ?_ ?_
            · have gp16 : G15 <+: G15 ++ [(⟨[.int .i64 0, .slice none 0 0, .slice none 0 0], true, true⟩ : Blk)] := List.prefix_append _ _
              have gb16_17 : (G15 ++ [(⟨[.int .i64 0, .slice none 0 0, .slice none 0 0], true, true⟩ : Blk)])[G15.length]? = some ⟨[.int .i64 0, .slice none 0 0, .slice none 0 0], true, true⟩ := by simp
              have gz16 : (G15 ++ [(⟨[.int .i64 0, .slice none 0 0, .slice none 0 0], true, true⟩ : Blk)]).length = G15.length + 1 := by simp
              try simp (maxSteps := 1000000) [go_sem, hia5, hib5, ca0, ca1, ca2, cb1, cb2, ou1, ou2, ou3, ou4]
              refine andK_intro (fun i hi => List.getElem?_append_left (by have hi : i < H5.length := hi; omega)) ?_
              generalize G15 ++ [(⟨[.int .i64 0, .slice none 0 0, .slice none 0 0], true, true⟩ : Blk)] = G16 at gp16 gb16_17 gz16 ⊢
              have gt16_9 := pget gp16 gt15_9
              have gt16_2 := (gl15).keep (S := fun _ => False) (Same.of_prefix gp16) (fun e => e)
              have sm16 := sm15.trans (Same.of_prefix gp16)
              have gc17 := sb1 G16 sm16
              obtain ⟨G17, ga17, gl17, gs17, gz17⟩ := app8 gt16_2 (bs := rb.o) lb1
              have gt17_9 := Same.get gs17 gt16_9 (by omega)
              have gt17_17 := Same.get gs17 gb16_17 (by omega)
              have sm17 := sm16.trans (gs17.mono (fun j _ e => show H5.length <= j by omega))
              try simp (maxSteps := 1000000) [go_sem, hia5, hib5, ca0, ca1, ca2, cb1, cb2, ou1, ou2, ou3, ou4, gc17, ga17]
              refine andK_intro (fun i hi => by have hi : i < H5.length := hi; exact gs17.2 i (by omega) (by omega)) ?_
              have gc18 := sa2 G17 sm17
              obtain ⟨G18, ga18, gl18, gp18, gz18⟩ := app4 gt17_9 (bs := ra.i) la2
              have gt18_17 := pget gp18 gt17_17
              have gt18_2 := (gl17).keep (S := fun _ => False) (Same.of_prefix gp18) (fun e => e)
              have sm18 := sm17.trans (Same.of_prefix gp18)
              try simp (maxSteps := 1000000) [go_sem, hia5, hib5, ca0, ca1, ca2, cb1, cb2, ou1, ou2, ou3, ou4, gc18, ga18]
              refine andK_intro (fun i hi => by have hi : i < H5.length := hi; exact (Same.of_prefix (S := fun _ => False) gp18).2 i (by omega) (fun e => e)) ?_
              have gc19 := sb2 G18 sm18
              obtain ⟨G19, ga19, gl19, gs19, gz19⟩ := app8 gl18 (bs := rb.i) lb2
              have gt19_17 := Same.get gs19 gt18_17 (by omega)
              have gt19_2 := (gt18_2).keep gs19 (by omega)
              have sm19 := sm18.trans (gs19.mono (fun j _ e => show H5.length <= j by omega))
              try simp (maxSteps := 1000000) [go_sem, hia5, hib5, ca0, ca1, ca2, cb1, cb2, ou1, ou2, ou3, ou4, gc19, ga19]
              refine andK_intro (fun i hi => by have hi : i < H5.length := hi; exact gs19.2 i (by omega) (by omega)) ?_
              try simp (maxSteps := 1000000) [go_sem, hia5, hib5, ca0, ca1, ca2, cb1, cb2, ou1, ou2, ou3, ou4]
              refine l04Made_ok (OL.read8 gt19_2 la1 lb1) (OL.read8 gl19 la2 lb2) (by simp only [List.length_append]; omega) (by simp only [List.length_append]; omega) _ ?_
              intro G20 va vb gp20 hab
              have gle20 := gp20.length_le
              have oneab : va.oneCell' = true /\ vb.oneCell' = true := ⟨hab.read.1.one, hab.read.2.one⟩
              obtain ⟨r1, r2⟩ := hab.rin
              have gbx := pget gp20 gt19_17
              obtain ⟨_, _, _, _, g⟩ := trb_cells gbx
              obtain ⟨q1, q2, q3⟩ := g ra.p va vb oneab.1 oneab.2
              simp (maxSteps := 1000000) [go_sem, hia5, hib5, ca0, ca1, ca2, cb1, cb2, ou1, ou2, ou3, ou4, tradeV, oneab.1, oneab.2, q1]
              exact endm G15.length G19.length _ _ va vb _ _ (by omega) (by omega) ((sm19.trans (Same.of_prefix gp20)).trans (q3.mono (fun j _ e => by omega))) q2 (r1.keep q3 (fun j hj e => by omega)) (r2.keep q3 (fun j hj e => by omega)) (by rw [sortB_len]; simp only [List.length_append]; omega) (by rw [sortB_len]; simp only [List.length_append]; omega) (by simp [upF, Fr.get, Up.refl])
            · have gc21 := sb1 G15 sm15
              obtain ⟨G21, ga21, gl21, gs21, gz21⟩ := app8 gl15 (bs := rb.o) lb1
              have gt21_9 := Same.get gs21 gt15_9 (by omega)
              have sm21 := sm15.trans (gs21.mono (fun j _ e => show H5.length <= j by omega))
              try simp (maxSteps := 1000000) [go_sem, hia5, hib5, ca0, ca1, ca2, cb1, cb2, ou1, ou2, ou3, ou4, gc21, ga21]
              refine andK_intro (fun i hi => by have hi : i < H5.length := hi; exact gs21.2 i (by omega) (by omega)) ?_
              try simp (maxSteps := 1000000) [go_sem, hia5, hib5, ca0, ca1, ca2, cb1, cb2, ou1, ou2, ou3, ou4]
              refine vGS_alt ?_ ?_
              · have gp22 : G21 <+: G21 ++ [(⟨[.int .i64 0, .slice none 0 0, .slice none 0 0], true, true⟩ : Blk)] := List.prefix_append _ _
                have gb22_17 : (G21 ++ [(⟨[.int .i64 0, .slice none 0 0, .slice none 0 0], true, true⟩ : Blk)])[G21.length]? = some ⟨[.int .i64 0, .slice none 0 0, .slice none 0 0], true, true⟩ := by simp
                have gz22 : (G21 ++ [(⟨[.int .i64 0, .slice none 0 0, .slice none 0 0], true, true⟩ : Blk)]).length = G21.length + 1 := by simp
                try simp (maxSteps := 1000000) [go_sem, hia5, hib5, ca0, ca1, ca2, cb1, cb2, ou1, ou2, ou3, ou4]
                refine andK_intro (fun i hi => List.getElem?_append_left (by have hi : i < H5.length := hi; omega)) ?_
                generalize G21 ++ [(⟨[.int .i64 0, .slice none 0 0, .slice none 0 0], true, true⟩ : Blk)] = G22 at gp22 gb22_17 gz22 ⊢
                have gt22_9 := pget gp22 gt21_9
                have gt22_2 := (gl21).keep (S := fun _ => False) (Same.of_prefix gp22) (fun e => e)
                have sm22 := sm21.trans (Same.of_prefix gp22)
                have gc23 := sa2 G22 sm22
                obtain ⟨G23, ga23, gl23, gp23, gz23⟩ := app4 gt22_9 (bs := ra.i) la2
                have gt23_2 := (gt22_2).keep (S := fun _ => False) (Same.of_prefix gp23) (fun e => e)
                have gt23_17 := pget gp23 gb22_17
                have sm23 := sm22.trans (Same.of_prefix gp23)
                try simp (maxSteps := 1000000) [go_sem, hia5, hib5, ca0, ca1, ca2, cb1, cb2, ou1, ou2, ou3, ou4, gc23, ga23]
                refine andK_intro (fun i hi => by have hi : i < H5.length := hi; exact (Same.of_prefix (S := fun _ => False) gp23).2 i (by omega) (fun e => e)) ?_
                have gc24 := sb2 G23 sm23
                obtain ⟨G24, ga24, gl24, gs24, gz24⟩ := app8 gl23 (bs := rb.i) lb2
                have gt24_2 := (gt23_2).keep gs24 (by omega)
                have gt24_17 := Same.get gs24 gt23_17 (by omega)
                have sm24 := sm23.trans (gs24.mono (fun j _ e => show H5.length <= j by omega))
                try simp (maxSteps := 1000000) [go_sem, hia5, hib5, ca0, ca1, ca2, cb1, cb2, ou1, ou2, ou3, ou4, gc24, ga24]
                refine andK_intro (fun i hi => by have hi : i < H5.length := hi; exact gs24.2 i (by omega) (by omega)) ?_
                try simp (maxSteps := 1000000) [go_sem, hia5, hib5, ca0, ca1, ca2, cb1, cb2, ou1, ou2, ou3, ou4]
                refine l04Made_ok (OL.read8 gt24_2 la1 lb1) (OL.read8 gl24 la2 lb2) (by simp only [List.length_append]; omega) (by simp only [List.length_append]; omega) _ ?_
                intro G25 va vb gp25 hab
                have gle25 := gp25.length_le
                have oneab : va.oneCell' = true /\ vb.oneCell' = true := ⟨hab.read.1.one, hab.read.2.one⟩
                obtain ⟨r1, r2⟩ := hab.rin
                have gbx := pget gp25 gt24_17
                obtain ⟨_, _, _, _, g⟩ := trb_cells gbx
                obtain ⟨q1, q2, q3⟩ := g ra.p va vb oneab.1 oneab.2
                simp (maxSteps := 1000000) [go_sem, hia5, hib5, ca0, ca1, ca2, cb1, cb2, ou1, ou2, ou3, ou4, tradeV, oneab.1, oneab.2, q1]
                exact endm G21.length G24.length _ _ va vb _ _ (by omega) (by omega) ((sm24.trans (Same.of_prefix gp25)).trans (q3.mono (fun j _ e => by omega))) q2 (r1.keep q3 (fun j hj e => by omega)) (r2.keep q3 (fun j hj e => by omega)) (by rw [sortB_len]; simp only [List.length_append]; omega) (by rw [sortB_len]; simp only [List.length_append]; omega) (by simp [upF, Fr.get, Up.refl])
              · have gc26 := sa2 G21 sm21
                obtain ⟨G26, ga26, gl26, gp26, gz26⟩ := app4 gt21_9 (bs := ra.i) la2
                have gt26_2 := (gl21).keep (S := fun _ => False) (Same.of_prefix gp26) (fun e => e)
                have sm26 := sm21.trans (Same.of_prefix gp26)
                try simp (maxSteps := 1000000) [go_sem, hia5, hib5, ca0, ca1, ca2, cb1, cb2, ou1, ou2, ou3, ou4, gc26, ga26]
                refine andK_intro (fun i hi => by have hi : i < H5.length := hi; exact (Same.of_prefix (S := fun _ => False) gp26).2 i (by omega) (fun e => e)) ?_
                try simp (maxSteps := 1000000) [go_sem, hia5, hib5, ca0, ca1, ca2, cb1, cb2, ou1, ou2, ou3, ou4]
                refine vGS_alt ?_ ?_
                · have gp27 : G26 <+: G26 ++ [(⟨[.int .i64 0, .slice none 0 0, .slice none 0 0], true, true⟩ : Blk)] := List.prefix_append _ _
                  have gb27_17 : (G26 ++ [(⟨[.int .i64 0, .slice none 0 0, .slice none 0 0], true, true⟩ : Blk)])[G26.length]? = some ⟨[.int .i64 0, .slice none 0 0, .slice none 0 0], true, true⟩ := by simp
                  have gz27 : (G26 ++ [(⟨[.int .i64 0, .slice none 0 0, .slice none 0 0], true, true⟩ : Blk)]).length = G26.length + 1 := by simp
                  try simp (maxSteps := 1000000) [go_sem, hia5, hib5, ca0, ca1, ca2, cb1, cb2, ou1, ou2, ou3, ou4]
                  refine andK_intro (fun i hi => List.getElem?_append_left (by have hi : i < H5.length := hi; omega)) ?_
                  generalize G26 ++ [(⟨[.int .i64 0, .slice none 0 0, .slice none 0 0], true, true⟩ : Blk)] = G27 at gp27 gb27_17 gz27 ⊢
                  have gt27_2 := (gt26_2).keep (S := fun _ => False) (Same.of_prefix gp27) (fun e => e)
                  have gt27_9 := (gl26).keep (S := fun _ => False) (Same.of_prefix gp27) (fun e => e)
                  have sm27 := sm26.trans (Same.of_prefix gp27)
                  have gc28 := sb2 G27 sm27
                  obtain ⟨G28, ga28, gl28, gs28, gz28⟩ := app8 gt27_9 (bs := rb.i) lb2
                  have gt28_2 := (gt27_2).keep gs28 (by omega)
                  have gt28_17 := Same.get gs28 gb27_17 (by omega)
                  have sm28 := sm27.trans (gs28.mono (fun j _ e => show H5.length <= j by omega))
                  try simp (maxSteps := 1000000) [go_sem, hia5, hib5, ca0, ca1, ca2, cb1, cb2, ou1, ou2, ou3, ou4, gc28, ga28]
                  refine andK_intro (fun i hi => by have hi : i < H5.length := hi; exact gs28.2 i (by omega) (by omega)) ?_
                  try simp (maxSteps := 1000000) [go_sem, hia5, hib5, ca0, ca1, ca2, cb1, cb2, ou1, ou2, ou3, ou4]
                  refine l04Made_ok (OL.read8 gt28_2 la1 lb1) (OL.read8 gl28 la2 lb2) (by simp only [List.length_append]; omega) (by simp only [List.length_append]; omega) _ ?_
                  intro G29 va vb gp29 hab
                  have gle29 := gp29.length_le
                  have oneab : va.oneCell' = true /\ vb.oneCell' = true := ⟨hab.read.1.one, hab.read.2.one⟩
                  obtain ⟨r1, r2⟩ := hab.rin
                  have gbx := pget gp29 gt28_17
                  obtain ⟨_, _, _, _, g⟩ := trb_cells gbx
                  obtain ⟨q1, q2, q3⟩ := g ra.p va vb oneab.1 oneab.2
                  simp (maxSteps := 1000000) [go_sem, hia5, hib5, ca0, ca1, ca2, cb1, cb2, ou1, ou2, ou3, ou4, tradeV, oneab.1, oneab.2, q1]
                  exact endm G26.length G28.length _ _ va vb _ _ (by omega) (by omega) ((sm28.trans (Same.of_prefix gp29)).trans (q3.mono (fun j _ e => by omega))) q2 (r1.keep q3 (fun j hj e => by omega)) (r2.keep q3 (fun j hj e => by omega)) (by rw [sortB_len]; simp only [List.length_append]; omega) (by rw [sortB_len]; simp only [List.length_append]; omega) (by simp [upF, Fr.get, Up.refl])
                · have gc30 := sb2 G26 sm26
                  obtain ⟨G30, ga30, gl30, gs30, gz30⟩ := app8 gl26 (bs := rb.i) lb2
                  have gt30_2 := (gt26_2).keep gs30 (by omega)
                  have sm30 := sm26.trans (gs30.mono (fun j _ e => show H5.length <= j by omega))
                  try simp (maxSteps := 1000000) [go_sem, hia5, hib5, ca0, ca1, ca2, cb1, cb2, ou1, ou2, ou3, ou4, gc30, ga30]
                  refine andK_intro (fun i hi => by have hi : i < H5.length := hi; exact gs30.2 i (by omega) (by omega)) ?_
                  try simp (maxSteps := 1000000) [go_sem, hia5, hib5, ca0, ca1, ca2, cb1, cb2, ou1, ou2, ou3, ou4]
                  refine vGS_alt ?_ ?_
                  · have gp31 : G30 <+: G30 ++ [(⟨[.int .i64 0, .slice none 0 0, .slice none 0 0], true, true⟩ : Blk)] := List.prefix_append _ _
                    have gb31_17 : (G30 ++ [(⟨[.int .i64 0, .slice none 0 0, .slice none 0 0], true, true⟩ : Blk)])[G30.length]? = some ⟨[.int .i64 0, .slice none 0 0, .slice none 0 0], true, true⟩ := by simp
                    have gz31 : (G30 ++ [(⟨[.int .i64 0, .slice none 0 0, .slice none 0 0], true, true⟩ : Blk)]).length = G30.length + 1 := by simp
                    try simp (maxSteps := 1000000) [go_sem, hia5, hib5, ca0, ca1, ca2, cb1, cb2, ou1, ou2, ou3, ou4]
                    refine andK_intro (fun i hi => List.getElem?_append_left (by have hi : i < H5.length := hi; omega)) ?_
                    generalize G30 ++ [(⟨[.int .i64 0, .slice none 0 0, .slice none 0 0], true, true⟩ : Blk)] = G31 at gp31 gb31_17 gz31 ⊢
                    have gt31_2 := (gt30_2).keep (S := fun _ => False) (Same.of_prefix gp31) (fun e => e)
                    have gt31_9 := (gl30).keep (S := fun _ => False) (Same.of_prefix gp31) (fun e => e)
                    have sm31 := sm30.trans (Same.of_prefix gp31)
                    try simp (maxSteps := 1000000) [go_sem, hia5, hib5, ca0, ca1, ca2, cb1, cb2, ou1, ou2, ou3, ou4]
                    refine l04Made_ok (OL.read8 gt31_2 la1 lb1) (OL.read8 gt31_9 la2 lb2) (by simp only [List.length_append]; omega) (by simp only [List.length_append]; omega) _ ?_
                    intro G32 va vb gp32 hab
                    have gle32 := gp32.length_le
                    have oneab : va.oneCell' = true /\ vb.oneCell' = true := ⟨hab.read.1.one, hab.read.2.one⟩
                    obtain ⟨r1, r2⟩ := hab.rin
                    have gbx := pget gp32 gb31_17
                    obtain ⟨_, _, _, _, g⟩ := trb_cells gbx
                    obtain ⟨q1, q2, q3⟩ := g ra.p va vb oneab.1 oneab.2
                    simp (maxSteps := 1000000) [go_sem, hia5, hib5, ca0, ca1, ca2, cb1, cb2, ou1, ou2, ou3, ou4, tradeV, oneab.1, oneab.2, q1]
                    exact endm G30.length G31.length _ _ va vb _ _ (by omega) (by omega) ((sm31.trans (Same.of_prefix gp32)).trans (q3.mono (fun j _ e => by omega))) q2 (r1.keep q3 (fun j hj e => by omega)) (r2.keep q3 (fun j hj e => by omega)) (by rw [sortB_len]; simp only [List.length_append]; omega) (by rw [sortB_len]; simp only [List.length_append]; omega) (by simp [upF, Fr.get, Up.refl])
                  · try simp (maxSteps := 1000000) [go_sem, hia5, hib5, ca0, ca1, ca2, cb1, cb2, ou1, ou2, ou3, ou4]
                    refine l04Made_ok (OL.read8 gt30_2 la1 lb1) (OL.read8 gl30 la2 lb2) (by simp only [List.length_append]; omega) (by simp only [List.length_append]; omega) _ ?_
                    intro G33 va vb gp33 hab
                    have gle33 := gp33.length_le
                    have oneab : va.oneCell' = true /\ vb.oneCell' = true := ⟨hab.read.1.one, hab.read.2.one⟩
                    obtain ⟨r1, r2⟩ := hab.rin
                    have gpx : G33 <+: G33 ++ [(⟨[.int .i64 ra.p, va, vb], true, true⟩ : Blk)] := List.prefix_append _ _
                    try simp (maxSteps := 1000000) [go_sem, hia5, hib5, ca0, ca1, ca2, cb1, cb2, ou1, ou2, ou3, ou4, tradeV, oneab.1, oneab.2]
                    refine andK_intro (fun i hi => List.getElem?_append_left (by have hi : i < H5.length := hi; omega)) ?_
                    try simp (maxSteps := 1000000) [go_sem, hia5, hib5, ca0, ca1, ca2, cb1, cb2, ou1, ou2, ou3, ou4, oneab.1, oneab.2]
                    exact endm G33.length G30.length _ _ va vb _ _ (by omega) (by omega) ((sm30.trans (Same.of_prefix gp33)).trans (Same.of_prefix gpx)) (by simp) (r1.keep (S := fun _ => False) (Same.of_prefix gpx) (fun _ _ e => e)) (r2.keep (S := fun _ => False) (Same.of_prefix gpx) (fun _ _ e => e)) (by rw [sortB_len]; simp only [List.length_append]; omega) (by rw [sortB_len]; simp only [List.length_append]; omega) (by simp [upF, Fr.get, Up.refl])
      · try simp (maxSteps := 1000000) [go_sem, hia5, hib5, ca0, ca1, ca2, cb1, cb2, ou1, ou2, ou3, ou4]
        refine vGS_alt ?_ ?_
        · have gp34 : H5 <+: H5 ++ [(⟨[.int .i64 0, .slice none 0 0, .slice none 0 0], true, true⟩ : Blk)] := List.prefix_append _ _
          have gb34_17 : (H5 ++ [(⟨[.int .i64 0, .slice none 0 0, .slice none 0 0], true, true⟩ : Blk)])[H5.length]? = some ⟨[.int .i64 0, .slice none 0 0, .slice none 0 0], true, true⟩ := by simp
          have gz34 : (H5 ++ [(⟨[.int .i64 0, .slice none 0 0, .slice none 0 0], true, true⟩ : Blk)]).length = H5.length + 1 := by simp
          try simp (maxSteps := 1000000) [go_sem, hia5, hib5, ca0, ca1, ca2, cb1, cb2, ou1, ou2, ou3, ou4]
          refine andK_intro (fun i hi => List.getElem?_append_left (by have hi : i < H5.length := hi; omega)) ?_
          generalize H5 ++ [(⟨[.int .i64 0, .slice none 0 0, .slice none 0 0], true, true⟩ : Blk)] = G34 at gp34 gb34_17 gz34 ⊢
          have sm34 := (Same.refl (fun j => H5.length <= j) H5).trans (Same.of_prefix gp34)
          try simp (maxSteps := 1000000) [go_sem, hia5, hib5, ca0, ca1, ca2, cb1, cb2, ou1, ou2, ou3, ou4]
          refine vGS_alt ?_ ?_
          · have gp35 : G34 <+: G34 ++ [(⟨[], true, true⟩ : Blk), ⟨[], true, true⟩] := List.prefix_append _ _
            have gb35_9 : (G34 ++ [(⟨[], true, true⟩ : Blk), ⟨[], true, true⟩])[G34.length]? = some ⟨[], true, true⟩ := by simp
            have gb35_2 : (G34 ++ [(⟨[], true, true⟩ : Blk), ⟨[], true, true⟩])[G34.length + 1]? = some ⟨[], true, true⟩ := by simp
            have gz35 : (G34 ++ [(⟨[], true, true⟩ : Blk), ⟨[], true, true⟩]).length = G34.length + 2 := by simp
            try simp (maxSteps := 1000000) [go_sem, hia5, hib5, ca0, ca1, ca2, cb1, cb2, ou1, ou2, ou3, ou4]
            refine andK_intro (fun i hi => List.getElem?_append_left (by have hi : i < H5.length := hi; omega)) ?_
            refine andK_intro (fun i hi => by have hi : i < H5.length := hi; rw [List.getElem?_append_left (by omega), List.getElem?_append_left (by omega)]) ?_
            generalize G34 ++ [(⟨[], true, true⟩ : Blk), ⟨[], true, true⟩] = G35 at gp35 gb35_9 gb35_2 gz35 ⊢
            have gt35_17 := pget gp35 gb34_17
            have sm35 := sm34.trans (Same.of_prefix gp35)
            have gc36 := sa1 G35 sm35
            obtain ⟨G36, ga36, gl36, gp36, gz36⟩ := app4 gb35_2 (bs := ra.o) la1
            have gt36_17 := pget gp36 gt35_17
            have gt36_9 := pget gp36 gb35_9
            have sm36 := sm35.trans (Same.of_prefix gp36)
            try simp (maxSteps := 1000000) [go_sem, hia5, hib5, ca0, ca1, ca2, cb1, cb2, ou1, ou2, ou3, ou4, gc36, ga36]
            refine andK_intro (fun i hi => by have hi : i < H5.length := hi; exact (Same.of_prefix (S := fun _ => False) gp36).2 i (by omega) (fun e => e)) ?_
            have gc37 := sb1 G36 sm36
            obtain ⟨G37, ga37, gl37, gs37, gz37⟩ := app8 gl36 (bs := rb.o) lb1
            have gt37_17 := Same.get gs37 gt36_17 (by omega)
            have gt37_9 := Same.get gs37 gt36_9 (by omega)
            have sm37 := sm36.trans (gs37.mono (fun j _ e => show H5.length <= j by omega))
            try simp (maxSteps := 1000000) [go_sem, hia5, hib5, ca0, ca1, ca2, cb1, cb2, ou1, ou2, ou3, ou4, gc37, ga37]
            refine andK_intro (fun i hi => by have hi : i < H5.length := hi; exact gs37.2 i (by omega) (by omega)) ?_
            have gc38 := sa2 G37 sm37
            obtain ⟨G38, ga38, gl38, gp38, gz38⟩ := app4 gt37_9 (bs := ra.i) la2
            have gt38_17 := pget gp38 gt37_17
            have gt38_2 := (gl37).keep (S := fun _ => False) (Same.of_prefix gp38) (fun e => e)
            have sm38 := sm37.trans (Same.of_prefix gp38)
            try simp (maxSteps := 1000000) [go_sem, hia5, hib5, ca0, ca1, ca2, cb1, cb2, ou1, ou2, ou3, ou4, gc38, ga38]
            refine andK_intro (fun i hi => by have hi : i < H5.length := hi; exact (Same.of_prefix (S := fun _ => False) gp38).2 i (by omega) (fun e => e)) ?_
            have gc39 := sb2 G38 sm38
            obtain ⟨G39, ga39, gl39, gs39, gz39⟩ := app8 gl38 (bs := rb.i) lb2
            have gt39_17 := Same.get gs39 gt38_17 (by omega)
            have gt39_2 := (gt38_2).keep gs39 (by omega)
            have sm39 := sm38.trans (gs39.mono (fun j _ e => show H5.length <= j by omega))
            try simp (maxSteps := 1000000) [go_sem, hia5, hib5, ca0, ca1, ca2, cb1, cb2, ou1, ou2, ou3, ou4, gc39, ga39]
            refine andK_intro (fun i hi => by have hi : i < H5.length := hi; exact gs39.2 i (by omega) (by omega)) ?_
            try simp (maxSteps := 1000000) [go_sem, hia5, hib5, ca0, ca1, ca2, cb1, cb2, ou1, ou2, ou3, ou4]
            refine l04Made_ok (OL.read8 gt39_2 la1 lb1) (OL.read8 gl39 la2 lb2) (by simp only [List.length_append]; omega) (by simp only [List.length_append]; omega) _ ?_
            intro G40 va vb gp40 hab
            have gle40 := gp40.length_le
            have oneab : va.oneCell' = true /\ vb.oneCell' = true := ⟨hab.read.1.one, hab.read.2.one⟩
            obtain ⟨r1, r2⟩ := hab.rin
            have gbx := pget gp40 gt39_17
            obtain ⟨_, _, _, _, g⟩ := trb_cells gbx
            obtain ⟨q1, q2, q3⟩ := g ra.p va vb oneab.1 oneab.2
            simp (maxSteps := 1000000) [go_sem, hia5, hib5, ca0, ca1, ca2, cb1, cb2, ou1, ou2, ou3, ou4, tradeV, oneab.1, oneab.2, q1]
            exact endm H5.length G39.length _ _ va vb _ _ (by omega) (by omega) ((sm39.trans (Same.of_prefix gp40)).trans (q3.mono (fun j _ e => by omega))) q2 (r1.keep q3 (fun j hj e => by omega)) (r2.keep q3 (fun j hj e => by omega)) (by rw [sortB_len]; simp only [List.length_append]; omega) (by rw [sortB_len]; simp only [List.length_append]; omega) (by simp [upF, Fr.get, Up.refl])
          · have gp41 : G34 <+: G34 ++ [(⟨[], true, true⟩ : Blk)] := List.prefix_append _ _
            have gb41_2 : (G34 ++ [(⟨[], true, true⟩ : Blk)])[G34.length]? = some ⟨[], true, true⟩ := by simp
            have gz41 : (G34 ++ [(⟨[], true, true⟩ : Blk)]).length = G34.length + 1 := by simp
            try simp (maxSteps := 1000000) [go_sem, hia5, hib5, ca0, ca1, ca2, cb1, cb2, ou1, ou2, ou3, ou4]
            refine andK_intro (fun i hi => List.getElem?_append_left (by have hi : i < H5.length := hi; omega)) ?_
            generalize G34 ++ [(⟨[], true, true⟩ : Blk)] = G41 at gp41 gb41_2 gz41 ⊢
            have gt41_17 := pget gp41 gb34_17
            have sm41 := sm34.trans (Same.of_prefix gp41)
            try simp (maxSteps := 1000000) [go_sem, hia5, hib5, ca0, ca1, ca2, cb1, cb2, ou1, ou2, ou3, ou4]
            refine vGS_alt ?_ ?_
            · have gp42 : G41 <+: G41 ++ [(⟨[], true, true⟩ : Blk)] := List.prefix_append _ _
              have gb42_9 : (G41 ++ [(⟨[], true, true⟩ : Blk)])[G41.length]? = some ⟨[], true, true⟩ := by simp
              have gz42 : (G41 ++ [(⟨[], true, true⟩ : Blk)]).length = G41.length + 1 := by simp
              try simp (maxSteps := 1000000) [go_sem, hia5, hib5, ca0, ca1, ca2, cb1, cb2, ou1, ou2, ou3, ou4]
              refine andK_intro (fun i hi => List.getElem?_append_left (by have hi : i < H5.length := hi; omega)) ?_
              generalize G41 ++ [(⟨[], true, true⟩ : Blk)] = G42 at gp42 gb42_9 gz42 ⊢
              have gt42_17 := pget gp42 gt41_17
              have gt42_2 := pget gp42 gb41_2
              have sm42 := sm41.trans (Same.of_prefix gp42)
              have gc43 := sa1 G42 sm42
              obtain ⟨G43, ga43, gl43, gp43, gz43⟩ := app4 gt42_2 (bs := ra.o) la1
              have gt43_17 := pget gp43 gt42_17
              have gt43_9 := pget gp43 gb42_9
              have sm43 := sm42.trans (Same.of_prefix gp43)
              try simp (maxSteps := 1000000) [go_sem, hia5, hib5, ca0, ca1, ca2, cb1, cb2, ou1, ou2, ou3, ou4, gc43, ga43]
              refine andK_intro (fun i hi => by have hi : i < H5.length := hi; exact (Same.of_prefix (S := fun _ => False) gp43).2 i (by omega) (fun e => e)) ?_
              have gc44 := sb1 G43 sm43
              obtain ⟨G44, ga44, gl44, gs44, gz44⟩ := app8 gl43 (bs := rb.o) lb1
              have gt44_17 := Same.get gs44 gt43_17 (by omega)
              have gt44_9 := Same.get gs44 gt43_9 (by omega)
              have sm44 := sm43.trans (gs44.mono (fun j _ e => show H5.length <= j by omega))
              try simp (maxSteps := 1000000) [go_sem, hia5, hib5, ca0, ca1, ca2, cb1, cb2, ou1, ou2, ou3, ou4, gc44, ga44]
              refine andK_intro (fun i hi => by have hi : i < H5.length := hi; exact gs44.2 i (by omega) (by omega)) ?_
              have gc45 := sa2 G44 sm44
              obtain ⟨G45, ga45, gl45, gp45, gz45⟩ := app4 gt44_9 (bs := ra.i) la2
              have gt45_17 := pget gp45 gt44_17
              have gt45_2 := (gl44).keep (S := fun _ => False) (Same.of_prefix gp45) (fun e => e)
              have sm45 := sm44.trans (Same.of_prefix gp45)
              try simp (maxSteps := 1000000) [go_sem, hia5, hib5, ca0, ca1, ca2, cb1, cb2, ou1, ou2, ou3, ou4, gc45, ga45]
              refine andK_intro (fun i hi => by have hi : i < H5.length := hi; exact (Same.of_prefix (S := fun _ => False) gp45).2 i (by omega) (fun e => e)) ?_
              have gc46 := sb2 G45 sm45
              obtain ⟨G46, ga46, gl46, gs46, gz46⟩ := app8 gl45 (bs := rb.i) lb2
              have gt46_17 := Same.get gs46 gt45_17 (by omega)
              have gt46_2 := (gt45_2).keep gs46 (by omega)
              have sm46 := sm45.trans (gs46.mono (fun j _ e => show H5.length <= j by omega))
              try simp (maxSteps := 1000000) [go_sem, hia5, hib5, ca0, ca1, ca2, cb1, cb2, ou1, ou2, ou3, ou4, gc46, ga46]
              refine andK_intro (fun i hi => by have hi : i < H5.length := hi; exact gs46.2 i (by omega) (by omega)) ?_
              try simp (maxSteps := 1000000) [go_sem, hia5, hib5, ca0, ca1, ca2, cb1, cb2, ou1, ou2, ou3, ou4]
              refine l04Made_ok (OL.read8 gt46_2 la1 lb1) (OL.read8 gl46 la2 lb2) (by simp only [List.length_append]; omega) (by simp only [List.length_append]; omega) _ ?_
              intro G47 va vb gp47 hab
              have gle47 := gp47.length_le
              have oneab : va.oneCell' = true /\ vb.oneCell' = true := ⟨hab.read.1.one, hab.read.2.one⟩
              obtain ⟨r1, r2⟩ := hab.rin
              have gbx := pget gp47 gt46_17
              obtain ⟨_, _, _, _, g⟩ := trb_cells gbx
              obtain ⟨q1, q2, q3⟩ := g ra.p va vb oneab.1 oneab.2
              simp (maxSteps := 1000000) [go_sem, hia5, hib5, ca0, ca1, ca2, cb1, cb2, ou1, ou2, ou3, ou4, tradeV, oneab.1, oneab.2, q1]
              exact endm H5.length G46.length _ _ va vb _ _ (by omega) (by omega) ((sm46.trans (Same.of_prefix gp47)).trans (q3.mono (fun j _ e => by omega))) q2 (r1.keep q3 (fun j hj e => by omega)) (r2.keep q3 (fun j hj e => by omega)) (by rw [sortB_len]; simp only [List.length_append]; omega) (by rw [sortB_len]; simp only [List.length_append]; omega) (by simp [upF, Fr.get, Up.refl])
            · have gc48 := sa1 G41 sm41
              obtain ⟨G48, ga48, gl48, gp48, gz48⟩ := app4 gb41_2 (bs := ra.o) la1
              have gt48_17 := pget gp48 gt41_17
              have sm48 := sm41.trans (Same.of_prefix gp48)
              try simp (maxSteps := 1000000) [go_sem, hia5, hib5, ca0, ca1, ca2, cb1, cb2, ou1, ou2, ou3, ou4, gc48, ga48]
              refine andK_intro (fun i hi => by have hi : i < H5.length := hi; exact (Same.of_prefix (S := fun _ => False) gp48).2 i (by omega) (fun e => e)) ?_
              try simp (maxSteps := 1000000) [go_sem, hia5, hib5, ca0, ca1, ca2, cb1, cb2, ou1, ou2, ou3, ou4]
              refine vGS_alt ?_ ?_
              · have gp49 : G48 <+: G48 ++ [(⟨[], true, true⟩ : Blk)] := List.prefix_append _ _
                have gb49_9 : (G48 ++ [(⟨[], true, true⟩ : Blk)])[G48.length]? = some ⟨[], true, true⟩ := by simp
                have gz49 : (G48 ++ [(⟨[], true, true⟩ : Blk)]).length = G48.length + 1 := by simp
                try simp (maxSteps := 1000000) [go_sem, hia5, hib5, ca0, ca1, ca2, cb1, cb2, ou1, ou2, ou3, ou4]
                refine andK_intro (fun i hi => List.getElem?_append_left (by have hi : i < H5.length := hi; omega)) ?_
                generalize G48 ++ [(⟨[], true, true⟩ : Blk)] = G49 at gp49 gb49_9 gz49 ⊢
                have gt49_17 := pget gp49 gt48_17
                have gt49_2 := (gl48).keep (S := fun _ => False) (Same.of_prefix gp49) (fun e => e)
                have sm49 := sm48.trans (Same.of_prefix gp49)
                have gc50 := sb1 G49 sm49
                obtain ⟨G50, ga50, gl50, gs50, gz50⟩ := app8 gt49_2 (bs := rb.o) lb1
                have gt50_17 := Same.get gs50 gt49_17 (by omega)
                have gt50_9 := Same.get gs50 gb49_9 (by omega)
                have sm50 := sm49.trans (gs50.mono (fun j _ e => show H5.length <= j by omega))
                try simp (maxSteps := 1000000) [go_sem, hia5, hib5, ca0, ca1, ca2, cb1, cb2, ou1, ou2, ou3, ou4, gc50, ga50]
                refine andK_intro (fun i hi => by have hi : i < H5.length := hi; exact gs50.2 i (by omega) (by omega)) ?_
                have gc51 := sa2 G50 sm50
                obtain ⟨G51, ga51, gl51, gp51, gz51⟩ := app4 gt50_9 (bs := ra.i) la2
                have gt51_17 := pget gp51 gt50_17
                have gt51_2 := (gl50).keep (S := fun _ => False) (Same.of_prefix gp51) (fun e => e)
                have sm51 := sm50.trans (Same.of_prefix gp51)
                try simp (maxSteps := 1000000) [go_sem, hia5, hib5, ca0, ca1, ca2, cb1, cb2, ou1, ou2, ou3, ou4, gc51, ga51]
                refine andK_intro (fun i hi => by have hi : i < H5.length := hi; exact (Same.of_prefix (S := fun _ => False) gp51).2 i (by omega) (fun e => e)) ?_
                have gc52 := sb2 G51 sm51
                obtain ⟨G52, ga52, gl52, gs52, gz52⟩ := app8 gl51 (bs := rb.i) lb2
                have gt52_17 := Same.get gs52 gt51_17 (by omega)
                have gt52_2 := (gt51_2).keep gs52 (by omega)
                have sm52 := sm51.trans (gs52.mono (fun j _ e => show H5.length <= j by omega))
                try simp (maxSteps := 1000000) [go_sem, hia5, hib5, ca0, ca1, ca2, cb1, cb2, ou1, ou2, ou3, ou4, gc52, ga52]
                refine andK_intro (fun i hi => by have hi : i < H5.length := hi; exact gs52.2 i (by omega) (by omega)) ?_
                try simp (maxSteps := 1000000) [go_sem, hia5, hib5, ca0, ca1, ca2, cb1, cb2, ou1, ou2, ou3, ou4]
                refine l04Made_ok (OL.read8 gt52_2 la1 lb1) (OL.read8 gl52 la2 lb2) (by simp only [List.length_append]; omega) (by simp only [List.length_append]; omega) _ ?_
                intro G53 va vb gp53 hab
                have gle53 := gp53.length_le
                have oneab : va.oneCell' = true /\ vb.oneCell' = true := ⟨hab.read.1.one, hab.read.2.one⟩
                obtain ⟨r1, r2⟩ := hab.rin
                have gbx := pget gp53 gt52_17
                obtain ⟨_, _, _, _, g⟩ := trb_cells gbx
                obtain ⟨q1, q2, q3⟩ := g ra.p va vb oneab.1 oneab.2
                simp (maxSteps := 1000000) [go_sem, hia5, hib5, ca0, ca1, ca2, cb1, cb2, ou1, ou2, ou3, ou4, tradeV, oneab.1, oneab.2, q1]
                exact endm H5.length G52.length _ _ va vb _ _ (by omega) (by omega) ((sm52.trans (Same.of_prefix gp53)).trans (q3.mono (fun j _ e => by omega))) q2 (r1.keep q3 (fun j hj e => by omega)) (r2.keep q3 (fun j hj e => by omega)) (by rw [sortB_len]; simp only [List.length_append]; omega) (by rw [sortB_len]; simp only [List.length_append]; omega) (by simp [upF, Fr.get, Up.refl])
              · have gc54 := sb1 G48 sm48
                obtain ⟨G54, ga54, gl54, gs54, gz54⟩ := app8 gl48 (bs := rb.o) lb1
                have gt54_17 := Same.get gs54 gt48_17 (by omega)
                have sm54 := sm48.trans (gs54.mono (fun j _ e => show H5.length <= j by omega))
                try simp (maxSteps := 1000000) [go_sem, hia5, hib5, ca0, ca1, ca2, cb1, cb2, ou1, ou2, ou3, ou4, gc54, ga54]
                refine andK_intro (fun i hi => by have hi : i < H5.length := hi; exact gs54.2 i (by omega) (by omega)) ?_
                have gp55 : G54 <+: G54 ++ [(⟨[], true, true⟩ : Blk)] := List.prefix_append _ _
                have gb55_9 : (G54 ++ [(⟨[], true, true⟩ : Blk)])[G54.length]? = some ⟨[], true, true⟩ := by simp
                have gz55 : (G54 ++ [(⟨[], true, true⟩ : Blk)]).length = G54.length + 1 := by simp
                try simp (maxSteps := 1000000) [go_sem, hia5, hib5, ca0, ca1, ca2, cb1, cb2, ou1, ou2, ou3, ou4]
                refine andK_intro (fun i hi => List.getElem?_append_left (by have hi : i < H5.length := hi; omega)) ?_
                generalize G54 ++ [(⟨[], true, true⟩ : Blk)] = G55 at gp55 gb55_9 gz55 ⊢
                have gt55_17 := pget gp55 gt54_17
                have gt55_2 := (gl54).keep (S := fun _ => False) (Same.of_prefix gp55) (fun e => e)
                have sm55 := sm54.trans (Same.of_prefix gp55)
                have gc56 := sa2 G55 sm55
                obtain ⟨G56, ga56, gl56, gp56, gz56⟩ := app4 gb55_9 (bs := ra.i) la2
                have gt56_17 := pget gp56 gt55_17
                have gt56_2 := (gt55_2).keep (S := fun _ => False) (Same.of_prefix gp56) (fun e => e)
                have sm56 := sm55.trans (Same.of_prefix gp56)
                try simp (maxSteps := 1000000) [go_sem, hia5, hib5, ca0, ca1, ca2, cb1, cb2, ou1, ou2, ou3, ou4, gc56, ga56]
                refine andK_intro (fun i hi => by have hi : i < H5.length := hi; exact (Same.of_prefix (S := fun _ => False) gp56).2 i (by omega) (fun e => e)) ?_
                have gc57 := sb2 G56 sm56
                obtain ⟨G57, ga57, gl57, gs57, gz57⟩ := app8 gl56 (bs := rb.i) lb2
                have gt57_17 := Same.get gs57 gt56_17 (by omega)
                have gt57_2 := (gt56_2).keep gs57 (by omega)
                have sm57 := sm56.trans (gs57.mono (fun j _ e => show H5.length <= j by omega))
                try simp (maxSteps := 1000000) [go_sem, hia5, hib5, ca0, ca1, ca2, cb1, cb2, ou1, ou2, ou3, ou4, gc57, ga57]
                refine andK_intro (fun i hi => by have hi : i < H5.length := hi; exact gs57.2 i (by omega) (by omega)) ?_
                try simp (maxSteps := 1000000) [go_sem, hia5, hib5, ca0, ca1, ca2, cb1, cb2, ou1, ou2, ou3, ou4]
                refine l04Made_ok (OL.read8 gt57_2 la1 lb1) (OL.read8 gl57 la2 lb2) (by simp only [List.length_append]; omega) (by simp only [List.length_append]; omega) _ ?_
                intro G58 va vb gp58 hab
                have gle58 := gp58.length_le
                have oneab : va.oneCell' = true /\ vb.oneCell' = true := ⟨hab.read.1.one, hab.read.2.one⟩
                obtain ⟨r1, r2⟩ := hab.rin
                have gbx := pget gp58 gt57_17
                obtain ⟨_, _, _, _, g⟩ := trb_cells gbx
                obtain ⟨q1, q2, q3⟩ := g ra.p va vb oneab.1 oneab.2
                simp (maxSteps := 1000000) [go_sem, hia5, hib5, ca0, ca1, ca2, cb1, cb2, ou1, ou2, ou3, ou4, tradeV, oneab.1, oneab.2, q1]
                exact endm H5.length G57.length _ _ va vb _ _ (by omega) (by omega) ((sm57.trans (Same.of_prefix gp58)).trans (q3.mono (fun j _ e => by omega))) q2 (r1.keep q3 (fun j hj e => by omega)) (r2.keep q3 (fun j hj e => by omega)) (by rw [sortB_len]; simp only [List.length_append]; omega) (by rw [sortB_len]; simp only [List.length_append]; omega) (by simp [upF, Fr.get, Up.refl])
        · have gp59 : H5 <+: H5 ++ [(⟨[], true, true⟩ : Blk)] := List.prefix_append _ _
          have gb59_2 : (H5 ++ [(⟨[], true, true⟩ : Blk)])[H5.length]? = some ⟨[], true, true⟩ := by simp
          have gz59 : (H5 ++ [(⟨[], true, true⟩ : Blk)]).length = H5.length + 1 := by simp
          try simp (maxSteps := 1000000) [go_sem, hia5, hib5, ca0, ca1, ca2, cb1, cb2, ou1, ou2, ou3, ou4]
          refine andK_intro (fun i hi => List.getElem?_append_left (by have hi : i < H5.length := hi; omega)) ?_
          generalize H5 ++ [(⟨[], true, true⟩ : Blk)] = G59 at gp59 gb59_2 gz59 ⊢
          have sm59 := (Same.refl (fun j => H5.length <= j) H5).trans (Same.of_prefix gp59)
          try simp (maxSteps := 1000000) [go_sem, hia5, hib5, ca0, ca1, ca2, cb1, cb2, ou1, ou2, ou3, ou4]
          refine vGS_alt ?_ ?_
          · have gp60 : G59 <+: G59 ++ [(⟨[], true, true⟩ : Blk)] := List.prefix_append _ _
            have gb60_9 : (G59 ++ [(⟨[], true, true⟩ : Blk)])[G59.length]? = some ⟨[], true, true⟩ := by simp
            have gz60 : (G59 ++ [(⟨[], true, true⟩ : Blk)]).length = G59.length + 1 := by simp
            try simp (maxSteps := 1000000) [go_sem, hia5, hib5, ca0, ca1, ca2, cb1, cb2, ou1, ou2, ou3, ou4]
            refine andK_intro (fun i hi => List.getElem?_append_left (by have hi : i < H5.length := hi; omega)) ?_
            generalize G59 ++ [(⟨[], true, true⟩ : Blk)] = G60 at gp60 gb60_9 gz60 ⊢
            have gt60_2 := pget gp60 gb59_2
            have sm60 := sm59.trans (Same.of_prefix gp60)
            try simp (maxSteps := 1000000) [go_sem, hia5, hib5, ca0, ca1, ca2, cb1, cb2, ou1, ou2, ou3, ou4]
            refine vGS_alt ?_ ?_
            · have gp61 : G60 <+: G60 ++ [(⟨[.int .i64 0, .slice none 0 0, .slice none 0 0], true, true⟩ : Blk)] := List.prefix_append _ _
              have gb61_17 : (G60 ++ [(⟨[.int .i64 0, .slice none 0 0, .slice none 0 0], true, true⟩ : Blk)])[G60.length]? = some ⟨[.int .i64 0, .slice none 0 0, .slice none 0 0], true, true⟩ := by simp
              have gz61 : (G60 ++ [(⟨[.int .i64 0, .slice none 0 0, .slice none 0 0], true, true⟩ : Blk)]).length = G60.length + 1 := by simp
              try simp (maxSteps := 1000000) [go_sem, hia5, hib5, ca0, ca1, ca2, cb1, cb2, ou1, ou2, ou3, ou4]
              refine andK_intro (fun i hi => List.getElem?_append_left (by have hi : i < H5.length := hi; omega)) ?_
              generalize G60 ++ [(⟨[.int .i64 0, .slice none 0 0, .slice none 0 0], true, true⟩ : Blk)] = G61 at gp61 gb61_17 gz61 ⊢
              have gt61_2 := pget gp61 gt60_2
              have gt61_9 := pget gp61 gb60_9
              have sm61 := sm60.trans (Same.of_prefix gp61)
              have gc62 := sa1 G61 sm61
              obtain ⟨G62, ga62, gl62, gp62, gz62⟩ := app4 gt61_2 (bs := ra.o) la1
              have gt62_9 := pget gp62 gt61_9
              have gt62_17 := pget gp62 gb61_17
              have sm62 := sm61.trans (Same.of_prefix gp62)
              try simp (maxSteps := 1000000) [go_sem, hia5, hib5, ca0, ca1, ca2, cb1, cb2, ou1, ou2, ou3, ou4, gc62, ga62]
              refine andK_intro (fun i hi => by have hi : i < H5.length := hi; exact (Same.of_prefix (S := fun _ => False) gp62).2 i (by omega) (fun e => e)) ?_
              have gc63 := sb1 G62 sm62
              obtain ⟨G63, ga63, gl63, gs63, gz63⟩ := app8 gl62 (bs := rb.o) lb1
              have gt63_9 := Same.get gs63 gt62_9 (by omega)
              have gt63_17 := Same.get gs63 gt62_17 (by omega)
              have sm63 := sm62.trans (gs63.mono (fun j _ e => show H5.length <= j by omega))
              try simp (maxSteps := 1000000) [go_sem, hia5, hib5, ca0, ca1, ca2, cb1, cb2, ou1, ou2, ou3, ou4, gc63, ga63]
              refine andK_intro (fun i hi => by have hi : i < H5.length := hi; exact gs63.2 i (by omega) (by omega)) ?_
              have gc64 := sa2 G63 sm63
              obtain ⟨G64, ga64, gl64, gp64, gz64⟩ := app4 gt63_9 (bs := ra.i) la2
              have gt64_17 := pget gp64 gt63_17
              have gt64_2 := (gl63).keep (S := fun _ => False) (Same.of_prefix gp64) (fun e => e)
              have sm64 := sm63.trans (Same.of_prefix gp64)
              try simp (maxSteps := 1000000) [go_sem, hia5, hib5, ca0, ca1, ca2, cb1, cb2, ou1, ou2, ou3, ou4, gc64, ga64]
              refine andK_intro (fun i hi => by have hi : i < H5.length := hi; exact (Same.of_prefix (S := fun _ => False) gp64).2 i (by omega) (fun e => e)) ?_
              have gc65 := sb2 G64 sm64
              obtain ⟨G65, ga65, gl65, gs65, gz65⟩ := app8 gl64 (bs := rb.i) lb2
              have gt65_17 := Same.get gs65 gt64_17 (by omega)
              have gt65_2 := (gt64_2).keep gs65 (by omega)
              have sm65 := sm64.trans (gs65.mono (fun j _ e => show H5.length <= j by omega))
              try simp (maxSteps := 1000000) [go_sem, hia5, hib5, ca0, ca1, ca2, cb1, cb2, ou1, ou2, ou3, ou4, gc65, ga65]
              refine andK_intro (fun i hi => by have hi : i < H5.length := hi; exact gs65.2 i (by omega) (by omega)) ?_
              try simp (maxSteps := 1000000) [go_sem, hia5, hib5, ca0, ca1, ca2, cb1, cb2, ou1, ou2, ou3, ou4]
              refine l04Made_ok (OL.read8 gt65_2 la1 lb1) (OL.read8 gl65 la2 lb2) (by simp only [List.length_append]; omega) (by simp only [List.length_append]; omega) _ ?_
              intro G66 va vb gp66 hab
              have gle66 := gp66.length_le
              have oneab : va.oneCell' = true /\ vb.oneCell' = true := ⟨hab.read.1.one, hab.read.2.one⟩
              obtain ⟨r1, r2⟩ := hab.rin
              have gbx := pget gp66 gt65_17
              obtain ⟨_, _, _, _, g⟩ := trb_cells gbx
              obtain ⟨q1, q2, q3⟩ := g ra.p va vb oneab.1 oneab.2
              simp (maxSteps := 1000000) [go_sem, hia5, hib5, ca0, ca1, ca2, cb1, cb2, ou1, ou2, ou3, ou4, tradeV, oneab.1, oneab.2, q1]
              exact endm G60.length G65.length _ _ va vb _ _ (by omega) (by omega) ((sm65.trans (Same.of_prefix gp66)).trans (q3.mono (fun j _ e => by omega))) q2 (r1.keep q3 (fun j hj e => by omega)) (r2.keep q3 (fun j hj e => by omega)) (by rw [sortB_len]; simp only [List.length_append]; omega) (by rw [sortB_len]; simp only [List.length_append]; omega) (by simp [upF, Fr.get, Up.refl])
            · have gc67 := sa1 G60 sm60
              obtain ⟨G67, ga67, gl67, gp67, gz67⟩ := app4 gt60_2 (bs := ra.o) la1
              have gt67_9 := pget gp67 gb60_9
              have sm67 := sm60.trans (Same.of_prefix gp67)
              try simp (maxSteps := 1000000) [go_sem, hia5, hib5, ca0, ca1, ca2, cb1, cb2, ou1, ou2, ou3, ou4, gc67, ga67]
              refine andK_intro (fun i hi => by have hi : i < H5.length := hi; exact (Same.of_prefix (S := fun _ => False) gp67).2 i (by omega) (fun e => e)) ?_
              try simp (maxSteps := 1000000) [go_sem, hia5, hib5, ca0, ca1, ca2, cb1, cb2, ou1, ou2, ou3, ou4]
              refine vGS_alt ?_ ?_
              · have gp68 : G67 <+: G67 ++ [(⟨[.int .i64 0, .slice none 0 0, .slice none 0 0], true, true⟩ : Blk)] := List.prefix_append _ _
                have gb68_17 : (G67 ++ [(⟨[.int .i64 0, .slice none 0 0, .slice none 0 0], true, true⟩ : Blk)])[G67.length]? = some ⟨[.int .i64 0, .slice none 0 0, .slice none 0 0], true, true⟩ := by simp
                have gz68 : (G67 ++ [(⟨[.int .i64 0, .slice none 0 0, .slice none 0 0], true, true⟩ : Blk)]).length = G67.length + 1 := by simp
                try simp (maxSteps := 1000000) [go_sem, hia5, hib5, ca0, ca1, ca2, cb1, cb2, ou1, ou2, ou3, ou4]
                refine andK_intro (fun i hi => List.getElem?_append_left (by have hi : i < H5.length := hi; omega)) ?_
                generalize G67 ++ [(⟨[.int .i64 0, .slice none 0 0, .slice none 0 0], true, true⟩ : Blk)] = G68 at gp68 gb68_17 gz68 ⊢
                have gt68_9 := pget gp68 gt67_9
                have gt68_2 := (gl67).keep (S := fun _ => False) (Same.of_prefix gp68) (fun e => e)
                have sm68 := sm67.trans (Same.of_prefix gp68)
                have gc69 := sb1 G68 sm68
                obtain ⟨G69, ga69, gl69, gs69, gz69⟩ := app8 gt68_2 (bs := rb.o) lb1
                have gt69_9 := Same.get gs69 gt68_9 (by omega)
                have gt69_17 := Same.get gs69 gb68_17 (by omega)
                have sm69 := sm68.trans (gs69.mono (fun j _ e => show H5.length <= j by omega))
                try simp (maxSteps := 1000000) [go_sem, hia5, hib5, ca0, ca1, ca2, cb1, cb2, ou1, ou2, ou3, ou4, gc69, ga69]
                refine andK_intro (fun i hi => by have hi : i < H5.length := hi; exact gs69.2 i (by omega) (by omega)) ?_
                have gc70 := sa2 G69 sm69
                obtain ⟨G70, ga70, gl70, gp70, gz70⟩ := app4 gt69_9 (bs := ra.i) la2
                have gt70_17 := pget gp70 gt69_17
                have gt70_2 := (gl69).keep (S := fun _ => False) (Same.of_prefix gp70) (fun e => e)
                have sm70 := sm69.trans (Same.of_prefix gp70)
                try simp (maxSteps := 1000000) [go_sem, hia5, hib5, ca0, ca1, ca2, cb1, cb2, ou1, ou2, ou3, ou4, gc70, ga70]
                refine andK_intro (fun i hi => by have hi : i < H5.length := hi; exact (Same.of_prefix (S := fun _ => False) gp70).2 i (by omega) (fun e => e)) ?_
                have gc71 := sb2 G70 sm70
                obtain ⟨G71, ga71, gl71, gs71, gz71⟩ := app8 gl70 (bs := rb.i) lb2
                have gt71_17 := Same.get gs71 gt70_17 (by omega)
                have gt71_2 := (gt70_2).keep gs71 (by omega)
                have sm71 := sm70.trans (gs71.mono (fun j _ e => show H5.length <= j by omega))
                try simp (maxSteps := 1000000) [go_sem, hia5, hib5, ca0, ca1, ca2, cb1, cb2, ou1, ou2, ou3, ou4, gc71, ga71]
                refine andK_intro (fun i hi => by have hi : i < H5.length := hi; exact gs71.2 i (by omega) (by omega)) ?_
                try simp (maxSteps := 1000000) [go_sem, hia5, hib5, ca0, ca1, ca2, cb1, cb2, ou1, ou2, ou3, ou4]
                refine l04Made_ok (OL.read8 gt71_2 la1 lb1) (OL.read8 gl71 la2 lb2) (by simp only [List.length_append]; omega) (by simp only [List.length_append]; omega) _ ?_
                intro G72 va vb gp72 hab
                have gle72 := gp72.length_le
                have oneab : va.oneCell' = true /\ vb.oneCell' = true := ⟨hab.read.1.one, hab.read.2.one⟩
                obtain ⟨r1, r2⟩ := hab.rin
                have gbx := pget gp72 gt71_17
                obtain ⟨_, _, _, _, g⟩ := trb_cells gbx
                obtain ⟨q1, q2, q3⟩ := g ra.p va vb oneab.1 oneab.2
                simp (maxSteps := 1000000) [go_sem, hia5, hib5, ca0, ca1, ca2, cb1, cb2, ou1, ou2, ou3, ou4, tradeV, oneab.1, oneab.2, q1]
                exact endm G67.length G71.length _ _ va vb _ _ (by omega) (by omega) ((sm71.trans (Same.of_prefix gp72)).trans (q3.mono (fun j _ e => by omega))) q2 (r1.keep q3 (fun j hj e => by omega)) (r2.keep q3 (fun j hj e => by omega)) (by rw [sortB_len]; simp only [List.length_append]; omega) (by rw [sortB_len]; simp only [List.length_append]; omega) (by simp [upF, Fr.get, Up.refl])
              · have gc73 := sb1 G67 sm67
                obtain ⟨G73, ga73, gl73, gs73, gz73⟩ := app8 gl67 (bs := rb.o) lb1
                have gt73_9 := Same.get gs73 gt67_9 (by omega)
                have sm73 := sm67.trans (gs73.mono (fun j _ e => show H5.length <= j by omega))
                try simp (maxSteps := 1000000) [go_sem, hia5, hib5, ca0, ca1, ca2, cb1, cb2, ou1, ou2, ou3, ou4, gc73, ga73]
                refine andK_intro (fun i hi => by have hi : i < H5.length := hi; exact gs73.2 i (by omega) (by omega)) ?_
                try simp (maxSteps := 1000000) [go_sem, hia5, hib5, ca0, ca1, ca2, cb1, cb2, ou1, ou2, ou3, ou4]
                refine vGS_alt ?_ ?_
                · have gp74 : G73 <+: G73 ++ [(⟨[.int .i64 0, .slice none 0 0, .slice none 0 0], true, true⟩ : Blk)] := List.prefix_append _ _
                  have gb74_17 : (G73 ++ [(⟨[.int .i64 0, .slice none 0 0, .slice none 0 0], true, true⟩ : Blk)])[G73.length]? = some ⟨[.int .i64 0, .slice none 0 0, .slice none 0 0], true, true⟩ := by simp
                  have gz74 : (G73 ++ [(⟨[.int .i64 0, .slice none 0 0, .slice none 0 0], true, true⟩ : Blk)]).length = G73.length + 1 := by simp
                  try simp (maxSteps := 1000000) [go_sem, hia5, hib5, ca0, ca1, ca2, cb1, cb2, ou1, ou2, ou3, ou4]
                  refine andK_intro (fun i hi => List.getElem?_append_left (by have hi : i < H5.length := hi; omega)) ?_
                  generalize G73 ++ [(⟨[.int .i64 0, .slice none 0 0, .slice none 0 0], true, true⟩ : Blk)] = G74 at gp74 gb74_17 gz74 ⊢
                  have gt74_9 := pget gp74 gt73_9
                  have gt74_2 := (gl73).keep (S := fun _ => False) (Same.of_prefix gp74) (fun e => e)
                  have sm74 := sm73.trans (Same.of_prefix gp74)
                  have gc75 := sa2 G74 sm74
                  obtain ⟨G75, ga75, gl75, gp75, gz75⟩ := app4 gt74_9 (bs := ra.i) la2
                  have gt75_2 := (gt74_2).keep (S := fun _ => False) (Same.of_prefix gp75) (fun e => e)
                  have gt75_17 := pget gp75 gb74_17
                  have sm75 := sm74.trans (Same.of_prefix gp75)
                  try simp (maxSteps := 1000000) [go_sem, hia5, hib5, ca0, ca1, ca2, cb1, cb2, ou1, ou2, ou3, ou4, gc75, ga75]
                  refine andK_intro (fun i hi => by have hi : i < H5.length := hi; exact (Same.of_prefix (S := fun _ => False) gp75).2 i (by omega) (fun e => e)) ?_
                  have gc76 := sb2 G75 sm75
                  obtain ⟨G76, ga76, gl76, gs76, gz76⟩ := app8 gl75 (bs := rb.i) lb2
                  have gt76_2 := (gt75_2).keep gs76 (by omega)
                  have gt76_17 := Same.get gs76 gt75_17 (by omega)
                  have sm76 := sm75.trans (gs76.mono (fun j _ e => show H5.length <= j by omega))
                  try simp (maxSteps := 1000000) [go_sem, hia5, hib5, ca0, ca1, ca2, cb1, cb2, ou1, ou2, ou3, ou4, gc76, ga76]
                  refine andK_intro (fun i hi => by have hi : i < H5.length := hi; exact gs76.2 i (by omega) (by omega)) ?_
                  try simp (maxSteps := 1000000) [go_sem, hia5, hib5, ca0, ca1, ca2, cb1, cb2, ou1, ou2, ou3, ou4]
                  refine l04Made_ok (OL.read8 gt76_2 la1 lb1) (OL.read8 gl76 la2 lb2) (by simp only [List.length_append]; omega) (by simp only [List.length_append]; omega) _ ?_
                  intro G77 va vb gp77 hab
                  have gle77 := gp77.length_le
                  have oneab : va.oneCell' = true /\ vb.oneCell' = true := ⟨hab.read.1.one, hab.read.2.one⟩
                  obtain ⟨r1, r2⟩ := hab.rin
                  have gbx := pget gp77 gt76_17
                  obtain ⟨_, _, _, _, g⟩ := trb_cells gbx
                  obtain ⟨q1, q2, q3⟩ := g ra.p va vb oneab.1 oneab.2
                  simp (maxSteps := 1000000) [go_sem, hia5, hib5, ca0, ca1, ca2, cb1, cb2, ou1, ou2, ou3, ou4, tradeV, oneab.1, oneab.2, q1]
                  exact endm G73.length G76.length _ _ va vb _ _ (by omega) (by omega) ((sm76.trans (Same.of_prefix gp77)).trans (q3.mono (fun j _ e => by omega))) q2 (r1.keep q3 (fun j hj e => by omega)) (r2.keep q3 (fun j hj e => by omega)) (by rw [sortB_len]; simp only [List.length_append]; omega) (by rw [sortB_len]; simp only [List.length_append]; omega) (by simp [upF, Fr.get, Up.refl])
                · have gc78 := sa2 G73 sm73
                  obtain ⟨G78, ga78, gl78, gp78, gz78⟩ := app4 gt73_9 (bs := ra.i) la2
                  have gt78_2 := (gl73).keep (S := fun _ => False) (Same.of_prefix gp78) (fun e => e)
                  have sm78 := sm73.trans (Same.of_prefix gp78)
                  try simp (maxSteps := 1000000) [go_sem, hia5, hib5, ca0, ca1, ca2, cb1, cb2, ou1, ou2, ou3, ou4, gc78, ga78]
                  refine andK_intro (fun i hi => by have hi : i < H5.length := hi; exact (Same.of_prefix (S := fun _ => False) gp78).2 i (by omega) (fun e => e)) ?_
                  try simp (maxSteps := 1000000) [go_sem, hia5, hib5, ca0, ca1, ca2, cb1, cb2, ou1, ou2, ou3, ou4]
                  refine vGS_alt ?_ ?_
                  · have gp79 : G78 <+: G78 ++ [(⟨[.int .i64 0, .slice none 0 0, .slice none 0 0], true, true⟩ : Blk)] := List.prefix_append _ _
                    have gb79_17 : (G78 ++ [(⟨[.int .i64 0, .slice none 0 0, .slice none 0 0], true, true⟩ : Blk)])[G78.length]? = some ⟨[.int .i64 0, .slice none 0 0, .slice none 0 0], true, true⟩ := by simp
                    have gz79 : (G78 ++ [(⟨[.int .i64 0, .slice none 0 0, .slice none 0 0], true, true⟩ : Blk)]).length = G78.length + 1 := by simp
                    try simp (maxSteps := 1000000) [go_sem, hia5, hib5, ca0, ca1, ca2, cb1, cb2, ou1, ou2, ou3, ou4]
                    refine andK_intro (fun i hi => List.getElem?_append_left (by have hi : i < H5.length := hi; omega)) ?_
                    generalize G78 ++ [(⟨[.int .i64 0, .slice none 0 0, .slice none 0 0], true, true⟩ : Blk)] = G79 at gp79 gb79_17 gz79 ⊢
                    have gt79_2 := (gt78_2).keep (S := fun _ => False) (Same.of_prefix gp79) (fun e => e)
                    have gt79_9 := (gl78).keep (S := fun _ => False) (Same.of_prefix gp79) (fun e => e)
                    have sm79 := sm78.trans (Same.of_prefix gp79)
                    have gc80 := sb2 G79 sm79
                    obtain ⟨G80, ga80, gl80, gs80, gz80⟩ := app8 gt79_9 (bs := rb.i) lb2
                    have gt80_2 := (gt79_2).keep gs80 (by omega)
                    have gt80_17 := Same.get gs80 gb79_17 (by omega)
                    have sm80 := sm79.trans (gs80.mono (fun j _ e => show H5.length <= j by omega))
                    try simp (maxSteps := 1000000) [go_sem, hia5, hib5, ca0, ca1, ca2, cb1, cb2, ou1, ou2, ou3, ou4, gc80, ga80]
                    refine andK_intro (fun i hi => by have hi : i < H5.length := hi; exact gs80.2 i (by omega) (by omega)) ?_
                    try simp (maxSteps := 1000000) [go_sem, hia5, hib5, ca0, ca1, ca2, cb1, cb2, ou1, ou2, ou3, ou4]
                    refine l04Made_ok (OL.read8 gt80_2 la1 lb1) (OL.read8 gl80 la2 lb2) (by simp only [List.length_append]; omega) (by simp only [List.length_append]; omega) _ ?_
                    intro G81 va vb gp81 hab
                    have gle81 := gp81.length_le
                    have oneab : va.oneCell' = true /\ vb.oneCell' = true := ⟨hab.read.1.one, hab.read.2.one⟩
                    obtain ⟨r1, r2⟩ := hab.rin
                    have gbx := pget gp81 gt80_17
                    obtain ⟨_, _, _, _, g⟩ := trb_cells gbx
                    obtain ⟨q1, q2, q3⟩ := g ra.p va vb oneab.1 oneab.2
                    simp (maxSteps := 1000000) [go_sem, hia5, hib5, ca0, ca1, ca2, cb1, cb2, ou1, ou2, ou3, ou4, tradeV, oneab.1, oneab.2, q1]
                    exact endm G78.length G80.length _ _ va vb _ _ (by omega) (by omega) ((sm80.trans (Same.of_prefix gp81)).trans (q3.mono (fun j _ e => by omega))) q2 (r1.keep q3 (fun j hj e => by omega)) (r2.keep q3 (fun j hj e => by omega)) (by rw [sortB_len]; simp only [List.length_append]; omega) (by rw [sortB_len]; simp only [List.length_append]; omega) (by simp [upF, Fr.get, Up.refl])
                  · have gc82 := sb2 G78 sm78
                    obtain ⟨G82, ga82, gl82, gs82, gz82⟩ := app8 gl78 (bs := rb.i) lb2
                    have gt82_2 := (gt78_2).keep gs82 (by omega)
                    have sm82 := sm78.trans (gs82.mono (fun j _ e => show H5.length <= j by omega))
                    try simp (maxSteps := 1000000) [go_sem, hia5, hib5, ca0, ca1, ca2, cb1, cb2, ou1, ou2, ou3, ou4, gc82, ga82]
                    refine andK_intro (fun i hi => by have hi : i < H5.length := hi; exact gs82.2 i (by omega) (by omega)) ?_
                    try simp (maxSteps := 1000000) [go_sem, hia5, hib5, ca0, ca1, ca2, cb1, cb2, ou1, ou2, ou3, ou4]
                    refine vGS_alt ?_ ?_
                    · have gp83 : G82 <+: G82 ++ [(⟨[.int .i64 0, .slice none 0 0, .slice none 0 0], true, true⟩ : Blk)] := List.prefix_append _ _
                      have gb83_17 : (G82 ++ [(⟨[.int .i64 0, .slice none 0 0, .slice none 0 0], true, true⟩ : Blk)])[G82.length]? = some ⟨[.int .i64 0, .slice none 0 0, .slice none 0 0], true, true⟩ := by simp
                      have gz83 : (G82 ++ [(⟨[.int .i64 0, .slice none 0 0, .slice none 0 0], true, true⟩ : Blk)]).length = G82.length + 1 := by simp
                      try simp (maxSteps := 1000000) [go_sem, hia5, hib5, ca0, ca1, ca2, cb1, cb2, ou1, ou2, ou3, ou4]
                      refine andK_intro (fun i hi => List.getElem?_append_left (by have hi : i < H5.length := hi; omega)) ?_
                      generalize G82 ++ [(⟨[.int .i64 0, .slice none 0 0, .slice none 0 0], true, true⟩ : Blk)] = G83 at gp83 gb83_17 gz83 ⊢
                      have gt83_2 := (gt82_2).keep (S := fun _ => False) (Same.of_prefix gp83) (fun e => e)
                      have gt83_9 := (gl82).keep (S := fun _ => False) (Same.of_prefix gp83) (fun e => e)
                      have sm83 := sm82.trans (Same.of_prefix gp83)
                      try simp (maxSteps := 1000000) [go_sem, hia5, hib5, ca0, ca1, ca2, cb1, cb2, ou1, ou2, ou3, ou4]
                      refine l04Made_ok (OL.read8 gt83_2 la1 lb1) (OL.read8 gt83_9 la2 lb2) (by simp only [List.length_append]; omega) (by simp only [List.length_append]; omega) _ ?_
                      intro G84 va vb gp84 hab
                      have gle84 := gp84.length_le
                      have oneab : va.oneCell' = true /\ vb.oneCell' = true := ⟨hab.read.1.one, hab.read.2.one⟩
                      obtain ⟨r1, r2⟩ := hab.rin
                      have gbx := pget gp84 gb83_17
                      obtain ⟨_, _, _, _, g⟩ := trb_cells gbx
                      obtain ⟨q1, q2, q3⟩ := g ra.p va vb oneab.1 oneab.2
                      simp (maxSteps := 1000000) [go_sem, hia5, hib5, ca0, ca1, ca2, cb1, cb2, ou1, ou2, ou3, ou4, tradeV, oneab.1, oneab.2, q1]
                      exact endm G82.length G83.length _ _ va vb _ _ (by omega) (by omega) ((sm83.trans (Same.of_prefix gp84)).trans (q3.mono (fun j _ e => by omega))) q2 (r1.keep q3 (fun j hj e => by omega)) (r2.keep q3 (fun j hj e => by omega)) (by rw [sortB_len]; simp only [List.length_append]; omega) (by rw [sortB_len]; simp only [List.length_append]; omega) (by simp [upF, Fr.get, Up.refl])
                    · try simp (maxSteps := 1000000) [go_sem, hia5, hib5, ca0, ca1, ca2, cb1, cb2, ou1, ou2, ou3, ou4]
                      refine l04Made_ok (OL.read8 gt82_2 la1 lb1) (OL.read8 gl82 la2 lb2) (by simp only [List.length_append]; omega) (by simp only [List.length_append]; omega) _ ?_
                      intro G85 va vb gp85 hab
                      have gle85 := gp85.length_le
                      have oneab : va.oneCell' = true /\ vb.oneCell' = true := ⟨hab.read.1.one, hab.read.2.one⟩
                      obtain ⟨r1, r2⟩ := hab.rin
                      have gpx : G85 <+: G85 ++ [(⟨[.int .i64 ra.p, va, vb], true, true⟩ : Blk)] := List.prefix_append _ _
                      try simp (maxSteps := 1000000) [go_sem, hia5, hib5, ca0, ca1, ca2, cb1, cb2, ou1, ou2, ou3, ou4, tradeV, oneab.1, oneab.2]
                      refine andK_intro (fun i hi => List.getElem?_append_left (by have hi : i < H5.length := hi; omega)) ?_
                      try simp (maxSteps := 1000000) [go_sem, hia5, hib5, ca0, ca1, ca2, cb1, cb2, ou1, ou2, ou3, ou4, oneab.1, oneab.2]
                      exact endm G85.length G82.length _ _ va vb _ _ (by omega) (by omega) ((sm82.trans (Same.of_prefix gp85)).trans (Same.of_prefix gpx)) (by simp) (r1.keep (S := fun _ => False) (Same.of_prefix gpx) (fun _ _ e => e)) (r2.keep (S := fun _ => False) (Same.of_prefix gpx) (fun _ _ e => e)) (by rw [sortB_len]; simp only [List.length_append]; omega) (by rw [sortB_len]; simp only [List.length_append]; omega) (by simp [upF, Fr.get, Up.refl])
          · try simp (maxSteps := 1000000) [go_sem, hia5, hib5, ca0, ca1, ca2, cb1, cb2, ou1, ou2, ou3, ou4]
            refine vGS_alt ?_ ?_
            · have gp86 : G59 <+: G59 ++ [(⟨[.int .i64 0, .slice none 0 0, .slice none 0 0], true, true⟩ : Blk)] := List.prefix_append _ _
              have gb86_17 : (G59 ++ [(⟨[.int .i64 0, .slice none 0 0, .slice none 0 0], true, true⟩ : Blk)])[G59.length]? = some ⟨[.int .i64 0, .slice none 0 0, .slice none 0 0], true, true⟩ := by simp
              have gz86 : (G59 ++ [(⟨[.int .i64 0, .slice none 0 0, .slice none 0 0], true, true⟩ : Blk)]).length = G59.length + 1 := by simp
              try simp (maxSteps := 1000000) [go_sem, hia5, hib5, ca0, ca1, ca2, cb1, cb2, ou1, ou2, ou3, ou4]
              refine andK_intro (fun i hi => List.getElem?_append_left (by have hi : i < H5.length := hi; omega)) ?_
              generalize G59 ++ [(⟨[.int .i64 0, .slice none 0 0, .slice none 0 0], true, true⟩ : Blk)] = G86 at gp86 gb86_17 gz86 ⊢
              have gt86_2 := pget gp86 gb59_2
              have sm86 := sm59.trans (Same.of_prefix gp86)
              try simp (maxSteps := 1000000) [go_sem, hia5, hib5, ca0, ca1, ca2, cb1, cb2, ou1, ou2, ou3, ou4]
              refine vGS_alt ?_ ?_
              · have gp87 : G86 <+: G86 ++ [(⟨[], true, true⟩ : Blk)] := List.prefix_append _ _
                have gb87_9 : (G86 ++ [(⟨[], true, true⟩ : Blk)])[G86.length]? = some ⟨[], true, true⟩ := by simp
                have gz87 : (G86 ++ [(⟨[], true, true⟩ : Blk)]).length = G86.length + 1 := by simp
                try simp (maxSteps := 1000000) [go_sem, hia5, hib5, ca0, ca1, ca2, cb1, cb2, ou1, ou2, ou3, ou4]
                refine andK_intro (fun i hi => List.getElem?_append_left (by have hi : i < H5.length := hi; omega)) ?_
                generalize G86 ++ [(⟨[], true, true⟩ : Blk)] = G87 at gp87 gb87_9 gz87 ⊢
                have gt87_2 := pget gp87 gt86_2
                have gt87_17 := pget gp87 gb86_17
                have sm87 := sm86.trans (Same.of_prefix gp87)
                have gc88 := sa1 G87 sm87
                obtain ⟨G88, ga88, gl88, gp88, gz88⟩ := app4 gt87_2 (bs := ra.o) la1
                have gt88_17 := pget gp88 gt87_17
                have gt88_9 := pget gp88 gb87_9
                have sm88 := sm87.trans (Same.of_prefix gp88)
                try simp (maxSteps := 1000000) [go_sem, hia5, hib5, ca0, ca1, ca2, cb1, cb2, ou1, ou2, ou3, ou4, gc88, ga88]
                refine andK_intro (fun i hi => by have hi : i < H5.length := hi; exact (Same.of_prefix (S := fun _ => False) gp88).2 i (by omega) (fun e => e)) ?_
                have gc89 := sb1 G88 sm88
                obtain ⟨G89, ga89, gl89, gs89, gz89⟩ := app8 gl88 (bs := rb.o) lb1
                have gt89_17 := Same.get gs89 gt88_17 (by omega)
                have gt89_9 := Same.get gs89 gt88_9 (by omega)
                have sm89 := sm88.trans (gs89.mono (fun j _ e => show H5.length <= j by omega))
                try simp (maxSteps := 1000000) [go_sem, hia5, hib5, ca0, ca1, ca2, cb1, cb2, ou1, ou2, ou3, ou4, gc89, ga89]
                refine andK_intro (fun i hi => by have hi : i < H5.length := hi; exact gs89.2 i (by omega) (by omega)) ?_
                have gc90 := sa2 G89 sm89
                obtain ⟨G90, ga90, gl90, gp90, gz90⟩ := app4 gt89_9 (bs := ra.i) la2
                have gt90_17 := pget gp90 gt89_17
                have gt90_2 := (gl89).keep (S := fun _ => False) (Same.of_prefix gp90) (fun e => e)
                have sm90 := sm89.trans (Same.of_prefix gp90)
                try simp (maxSteps := 1000000) [go_sem, hia5, hib5, ca0, ca1, ca2, cb1, cb2, ou1, ou2, ou3, ou4, gc90, ga90]
                refine andK_intro (fun i hi => by have hi : i < H5.length := hi; exact (Same.of_prefix (S := fun _ => False) gp90).2 i (by omega) (fun e => e)) ?_
                have gc91 := sb2 G90 sm90
                obtain ⟨G91, ga91, gl91, gs91, gz91⟩ := app8 gl90 (bs := rb.i) lb2
                have gt91_17 := Same.get gs91 gt90_17 (by omega)
                have gt91_2 := (gt90_2).keep gs91 (by omega)
                have sm91 := sm90.trans (gs91.mono (fun j _ e => show H5.length <= j by omega))
                try simp (maxSteps := 1000000) [go_sem, hia5, hib5, ca0, ca1, ca2, cb1, cb2, ou1, ou2, ou3, ou4, gc91, ga91]
                refine andK_intro (fun i hi => by have hi : i < H5.length := hi; exact gs91.2 i (by omega) (by omega)) ?_
                try simp (maxSteps := 1000000) [go_sem, hia5, hib5, ca0, ca1, ca2, cb1, cb2, ou1, ou2, ou3, ou4]
                refine l04Made_ok (OL.read8 gt91_2 la1 lb1) (OL.read8 gl91 la2 lb2) (by simp only [List.length_append]; omega) (by simp only [List.length_append]; omega) _ ?_
                intro G92 va vb gp92 hab
                have gle92 := gp92.length_le
                have oneab : va.oneCell' = true /\ vb.oneCell' = true := ⟨hab.read.1.one, hab.read.2.one⟩
                obtain ⟨r1, r2⟩ := hab.rin
                have gbx := pget gp92 gt91_17
                obtain ⟨_, _, _, _, g⟩ := trb_cells gbx
                obtain ⟨q1, q2, q3⟩ := g ra.p va vb oneab.1 oneab.2
                simp (maxSteps := 1000000) [go_sem, hia5, hib5, ca0, ca1, ca2, cb1, cb2, ou1, ou2, ou3, ou4, tradeV, oneab.1, oneab.2, q1]
                exact endm G59.length G91.length _ _ va vb _ _ (by omega) (by omega) ((sm91.trans (Same.of_prefix gp92)).trans (q3.mono (fun j _ e => by omega))) q2 (r1.keep q3 (fun j hj e => by omega)) (r2.keep q3 (fun j hj e => by omega)) (by rw [sortB_len]; simp only [List.length_append]; omega) (by rw [sortB_len]; simp only [List.length_append]; omega) (by simp [upF, Fr.get, Up.refl])
              · have gc93 := sa1 G86 sm86
                obtain ⟨G93, ga93, gl93, gp93, gz93⟩ := app4 gt86_2 (bs := ra.o) la1
                have gt93_17 := pget gp93 gb86_17
                have sm93 := sm86.trans (Same.of_prefix gp93)
                try simp (maxSteps := 1000000) [go_sem, hia5, hib5, ca0, ca1, ca2, cb1, cb2, ou1, ou2, ou3, ou4, gc93, ga93]
                refine andK_intro (fun i hi => by have hi : i < H5.length := hi; exact (Same.of_prefix (S := fun _ => False) gp93).2 i (by omega) (fun e => e)) ?_
                try simp (maxSteps := 1000000) [go_sem, hia5, hib5, ca0, ca1, ca2, cb1, cb2, ou1, ou2, ou3, ou4]
                refine vGS_alt ?_ ?_
                · have gp94 : G93 <+: G93 ++ [(⟨[], true, true⟩ : Blk)] := List.prefix_append _ _
                  have gb94_9 : (G93 ++ [(⟨[], true, true⟩ : Blk)])[G93.length]? = some ⟨[], true, true⟩ := by simp
                  have gz94 : (G93 ++ [(⟨[], true, true⟩ : Blk)]).length = G93.length + 1 := by simp
                  try simp (maxSteps := 1000000) [go_sem, hia5, hib5, ca0, ca1, ca2, cb1, cb2, ou1, ou2, ou3, ou4]
                  refine andK_intro (fun i hi => List.getElem?_append_left (by have hi : i < H5.length := hi; omega)) ?_
                  generalize G93 ++ [(⟨[], true, true⟩ : Blk)] = G94 at gp94 gb94_9 gz94 ⊢
                  have gt94_17 := pget gp94 gt93_17
                  have gt94_2 := (gl93).keep (S := fun _ => False) (Same.of_prefix gp94) (fun e => e)
                  have sm94 := sm93.trans (Same.of_prefix gp94)
                  have gc95 := sb1 G94 sm94
                  obtain ⟨G95, ga95, gl95, gs95, gz95⟩ := app8 gt94_2 (bs := rb.o) lb1
                  have gt95_17 := Same.get gs95 gt94_17 (by omega)
                  have gt95_9 := Same.get gs95 gb94_9 (by omega)
                  have sm95 := sm94.trans (gs95.mono (fun j _ e => show H5.length <= j by omega))
                  try simp (maxSteps := 1000000) [go_sem, hia5, hib5, ca0, ca1, ca2, cb1, cb2, ou1, ou2, ou3, ou4, gc95, ga95]
                  refine andK_intro (fun i hi => by have hi : i < H5.length := hi; exact gs95.2 i (by omega) (by omega)) ?_
                  have gc96 := sa2 G95 sm95
                  obtain ⟨G96, ga96, gl96, gp96, gz96⟩ := app4 gt95_9 (bs := ra.i) la2
                  have gt96_17 := pget gp96 gt95_17
                  have gt96_2 := (gl95).keep (S := fun _ => False) (Same.of_prefix gp96) (fun e => e)
                  have sm96 := sm95.trans (Same.of_prefix gp96)
                  try simp (maxSteps := 1000000) [go_sem, hia5, hib5, ca0, ca1, ca2, cb1, cb2, ou1, ou2, ou3, ou4, gc96, ga96]
                  refine andK_intro (fun i hi => by have hi : i < H5.length := hi; exact (Same.of_prefix (S := fun _ => False) gp96).2 i (by omega) (fun e => e)) ?_
                  have gc97 := sb2 G96 sm96
                  obtain ⟨G97, ga97, gl97, gs97, gz97⟩ := app8 gl96 (bs := rb.i) lb2
                  have gt97_17 := Same.get gs97 gt96_17 (by omega)
                  have gt97_2 := (gt96_2).keep gs97 (by omega)
                  have sm97 := sm96.trans (gs97.mono (fun j _ e => show H5.length <= j by omega))
                  try simp (maxSteps := 1000000) [go_sem, hia5, hib5, ca0, ca1, ca2, cb1, cb2, ou1, ou2, ou3, ou4, gc97, ga97]
                  refine andK_intro (fun i hi => by have hi : i < H5.length := hi; exact gs97.2 i (by omega) (by omega)) ?_
                  try simp (maxSteps := 1000000) [go_sem, hia5, hib5, ca0, ca1, ca2, cb1, cb2, ou1, ou2, ou3, ou4]
                  refine l04Made_ok (OL.read8 gt97_2 la1 lb1) (OL.read8 gl97 la2 lb2) (by simp only [List.length_append]; omega) (by simp only [List.length_append]; omega) _ ?_
                  intro G98 va vb gp98 hab
                  have gle98 := gp98.length_le
                  have oneab : va.oneCell' = true /\ vb.oneCell' = true := ⟨hab.read.1.one, hab.read.2.one⟩
                  obtain ⟨r1, r2⟩ := hab.rin
                  have gbx := pget gp98 gt97_17
                  obtain ⟨_, _, _, _, g⟩ := trb_cells gbx
                  obtain ⟨q1, q2, q3⟩ := g ra.p va vb oneab.1 oneab.2
                  simp (maxSteps := 1000000) [go_sem, hia5, hib5, ca0, ca1, ca2, cb1, cb2, ou1, ou2, ou3, ou4, tradeV, oneab.1, oneab.2, q1]
                  exact endm G59.length G97.length _ _ va vb _ _ (by omega) (by omega) ((sm97.trans (Same.of_prefix gp98)).trans (q3.mono (fun j _ e => by omega))) q2 (r1.keep q3 (fun j hj e => by omega)) (r2.keep q3 (fun j hj e => by omega)) (by rw [sortB_len]; simp only [List.length_append]; omega) (by rw [sortB_len]; simp only [List.length_append]; omega) (by simp [upF, Fr.get, Up.refl])
                · have gc99 := sb1 G93 sm93
                  obtain ⟨G99, ga99, gl99, gs99, gz99⟩ := app8 gl93 (bs := rb.o) lb1
                  have gt99_17 := Same.get gs99 gt93_17 (by omega)
                  have sm99 := sm93.trans (gs99.mono (fun j _ e => show H5.length <= j by omega))
                  try simp (maxSteps := 1000000) [go_sem, hia5, hib5, ca0, ca1, ca2, cb1, cb2, ou1, ou2, ou3, ou4, gc99, ga99]
                  refine andK_intro (fun i hi => by have hi : i < H5.length := hi; exact gs99.2 i (by omega) (by omega)) ?_
                  have gp100 : G99 <+: G99 ++ [(⟨[], true, true⟩ : Blk)] := List.prefix_append _ _
                  have gb100_9 : (G99 ++ [(⟨[], true, true⟩ : Blk)])[G99.length]? = some ⟨[], true, true⟩ := by simp
                  have gz100 : (G99 ++ [(⟨[], true, true⟩ : Blk)]).length = G99.length + 1 := by simp
                  try simp (maxSteps := 1000000) [go_sem, hia5, hib5, ca0, ca1, ca2, cb1, cb2, ou1, ou2, ou3, ou4]
                  refine andK_intro (fun i hi => List.getElem?_append_left (by have hi : i < H5.length := hi; omega)) ?_
                  generalize G99 ++ [(⟨[], true, true⟩ : Blk)] = G100 at gp100 gb100_9 gz100 ⊢
                  have gt100_17 := pget gp100 gt99_17
                  have gt100_2 := (gl99).keep (S := fun _ => False) (Same.of_prefix gp100) (fun e => e)
                  have sm100 := sm99.trans (Same.of_prefix gp100)
                  have gc101 := sa2 G100 sm100
                  obtain ⟨G101, ga101, gl101, gp101, gz101⟩ := app4 gb100_9 (bs := ra.i) la2
                  have gt101_17 := pget gp101 gt100_17
                  have gt101_2 := (gt100_2).keep (S := fun _ => False) (Same.of_prefix gp101) (fun e => e)
                  have sm101 := sm100.trans (Same.of_prefix gp101)
                  try simp (maxSteps := 1000000) [go_sem, hia5, hib5, ca0, ca1, ca2, cb1, cb2, ou1, ou2, ou3, ou4, gc101, ga101]
                  refine andK_intro (fun i hi => by have hi : i < H5.length := hi; exact (Same.of_prefix (S := fun _ => False) gp101).2 i (by omega) (fun e => e)) ?_
                  have gc102 := sb2 G101 sm101
                  obtain ⟨G102, ga102, gl102, gs102, gz102⟩ := app8 gl101 (bs := rb.i) lb2
                  have gt102_17 := Same.get gs102 gt101_17 (by omega)
                  have gt102_2 := (gt101_2).keep gs102 (by omega)
                  have sm102 := sm101.trans (gs102.mono (fun j _ e => show H5.length <= j by omega))
                  try simp (maxSteps := 1000000) [go_sem, hia5, hib5, ca0, ca1, ca2, cb1, cb2, ou1, ou2, ou3, ou4, gc102, ga102]
                  refine andK_intro (fun i hi => by have hi : i < H5.length := hi; exact gs102.2 i (by omega) (by omega)) ?_
                  try simp (maxSteps := 1000000) [go_sem, hia5, hib5, ca0, ca1, ca2, cb1, cb2, ou1, ou2, ou3, ou4]
                  refine l04Made_ok (OL.read8 gt102_2 la1 lb1) (OL.read8 gl102 la2 lb2) (by simp only [List.length_append]; omega) (by simp only [List.length_append]; omega) _ ?_
                  intro G103 va vb gp103 hab
                  have gle103 := gp103.length_le
                  have oneab : va.oneCell' = true /\ vb.oneCell' = true := ⟨hab.read.1.one, hab.read.2.one⟩
                  obtain ⟨r1, r2⟩ := hab.rin
                  have gbx := pget gp103 gt102_17
                  obtain ⟨_, _, _, _, g⟩ := trb_cells gbx
                  obtain ⟨q1, q2, q3⟩ := g ra.p va vb oneab.1 oneab.2
                  simp (maxSteps := 1000000) [go_sem, hia5, hib5, ca0, ca1, ca2, cb1, cb2, ou1, ou2, ou3, ou4, tradeV, oneab.1, oneab.2, q1]
                  exact endm G59.length G102.length _ _ va vb _ _ (by omega) (by omega) ((sm102.trans (Same.of_prefix gp103)).trans (q3.mono (fun j _ e => by omega))) q2 (r1.keep q3 (fun j hj e => by omega)) (r2.keep q3 (fun j hj e => by omega)) (by rw [sortB_len]; simp only [List.length_append]; omega) (by rw [sortB_len]; simp only [List.length_append]; omega) (by simp [upF, Fr.get, Up.refl])
            · have gc104 := sa1 G59 sm59
              obtain ⟨G104, ga104, gl104, gp104, gz104⟩ := app4 gb59_2 (bs := ra.o) la1
              have sm104 := sm59.trans (Same.of_prefix gp104)
              try simp (maxSteps := 1000000) [go_sem, hia5, hib5, ca0, ca1, ca2, cb1, cb2, ou1, ou2, ou3, ou4, gc104, ga104]
              refine andK_intro (fun i hi => by have hi : i < H5.length := hi; exact (Same.of_prefix (S := fun _ => False) gp104).2 i (by omega) (fun e => e)) ?_
              try simp (maxSteps := 1000000) [go_sem, hia5, hib5, ca0, ca1, ca2, cb1, cb2, ou1, ou2, ou3, ou4]
              refine vGS_alt ?_ ?_
              · have gp105 : G104 <+: G104 ++ [(⟨[], true, true⟩ : Blk)] := List.prefix_append _ _
                have gb105_9 : (G104 ++ [(⟨[], true, true⟩ : Blk)])[G104.length]? = some ⟨[], true, true⟩ := by simp
                have gz105 : (G104 ++ [(⟨[], true, true⟩ : Blk)]).length = G104.length + 1 := by simp
                try simp (maxSteps := 1000000) [go_sem, hia5, hib5, ca0, ca1, ca2, cb1, cb2, ou1, ou2, ou3, ou4]
                refine andK_intro (fun i hi => List.getElem?_append_left (by have hi : i < H5.length := hi; omega)) ?_
                generalize G104 ++ [(⟨[], true, true⟩ : Blk)] = G105 at gp105 gb105_9 gz105 ⊢
                have gt105_2 := (gl104).keep (S := fun _ => False) (Same.of_prefix gp105) (fun e => e)
                have sm105 := sm104.trans (Same.of_prefix gp105)
                try simp (maxSteps := 1000000) [go_sem, hia5, hib5, ca0, ca1, ca2, cb1, cb2, ou1, ou2, ou3, ou4]
                refine vGS_alt ?_ ?_
                · have gp106 : G105 <+: G105 ++ [(⟨[.int .i64 0, .slice none 0 0, .slice none 0 0], true, true⟩ : Blk)] := List.prefix_append _ _
                  have gb106_17 : (G105 ++ [(⟨[.int .i64 0, .slice none 0 0, .slice none 0 0], true, true⟩ : Blk)])[G105.length]? = some ⟨[.int .i64 0, .slice none 0 0, .slice none 0 0], true, true⟩ := by simp
                  have gz106 : (G105 ++ [(⟨[.int .i64 0, .slice none 0 0, .slice none 0 0], true, true⟩ : Blk)]).length = G105.length + 1 := by simp
                  try simp (maxSteps := 1000000) [go_sem, hia5, hib5, ca0, ca1, ca2, cb1, cb2, ou1, ou2, ou3, ou4]
                  refine andK_intro (fun i hi => List.getElem?_append_left (by have hi : i < H5.length := hi; omega)) ?_
                  generalize G105 ++ [(⟨[.int .i64 0, .slice none 0 0, .slice none 0 0], true, true⟩ : Blk)] = G106 at gp106 gb106_17 gz106 ⊢
                  have gt106_2 := (gt105_2).keep (S := fun _ => False) (Same.of_prefix gp106) (fun e => e)
                  have gt106_9 := pget gp106 gb105_9
                  have sm106 := sm105.trans (Same.of_prefix gp106)
                  have gc107 := sb1 G106 sm106
                  obtain ⟨G107, ga107, gl107, gs107, gz107⟩ := app8 gt106_2 (bs := rb.o) lb1
                  have gt107_9 := Same.get gs107 gt106_9 (by omega)
                  have gt107_17 := Same.get gs107 gb106_17 (by omega)
                  have sm107 := sm106.trans (gs107.mono (fun j _ e => show H5.length <= j by omega))
                  try simp (maxSteps := 1000000) [go_sem, hia5, hib5, ca0, ca1, ca2, cb1, cb2, ou1, ou2, ou3, ou4, gc107, ga107]
                  refine andK_intro (fun i hi => by have hi : i < H5.length := hi; exact gs107.2 i (by omega) (by omega)) ?_
                  have gc108 := sa2 G107 sm107
                  obtain ⟨G108, ga108, gl108, gp108, gz108⟩ := app4 gt107_9 (bs := ra.i) la2
                  have gt108_17 := pget gp108 gt107_17
                  have gt108_2 := (gl107).keep (S := fun _ => False) (Same.of_prefix gp108) (fun e => e)
                  have sm108 := sm107.trans (Same.of_prefix gp108)
                  try simp (maxSteps := 1000000) [go_sem, hia5, hib5, ca0, ca1, ca2, cb1, cb2, ou1, ou2, ou3, ou4, gc108, ga108]
                  refine andK_intro (fun i hi => by have hi : i < H5.length := hi; exact (Same.of_prefix (S := fun _ => False) gp108).2 i (by omega) (fun e => e)) ?_
                  have gc109 := sb2 G108 sm108
                  obtain ⟨G109, ga109, gl109, gs109, gz109⟩ := app8 gl108 (bs := rb.i) lb2
                  have gt109_17 := Same.get gs109 gt108_17 (by omega)
                  have gt109_2 := (gt108_2).keep gs109 (by omega)
                  have sm109 := sm108.trans (gs109.mono (fun j _ e => show H5.length <= j by omega))
                  try simp (maxSteps := 1000000) [go_sem, hia5, hib5, ca0, ca1, ca2, cb1, cb2, ou1, ou2, ou3, ou4, gc109, ga109]
                  refine andK_intro (fun i hi => by have hi : i < H5.length := hi; exact gs109.2 i (by omega) (by omega)) ?_
                  try simp (maxSteps := 1000000) [go_sem, hia5, hib5, ca0, ca1, ca2, cb1, cb2, ou1, ou2, ou3, ou4]
                  refine l04Made_ok (OL.read8 gt109_2 la1 lb1) (OL.read8 gl109 la2 lb2) (by simp only [List.length_append]; omega) (by simp only [List.length_append]; omega) _ ?_
                  intro G110 va vb gp110 hab
                  have gle110 := gp110.length_le
                  have oneab : va.oneCell' = true /\ vb.oneCell' = true := ⟨hab.read.1.one, hab.read.2.one⟩
                  obtain ⟨r1, r2⟩ := hab.rin
                  have gbx := pget gp110 gt109_17
                  obtain ⟨_, _, _, _, g⟩ := trb_cells gbx
                  obtain ⟨q1, q2, q3⟩ := g ra.p va vb oneab.1 oneab.2
                  simp (maxSteps := 1000000) [go_sem, hia5, hib5, ca0, ca1, ca2, cb1, cb2, ou1, ou2, ou3, ou4, tradeV, oneab.1, oneab.2, q1]
                  exact endm G105.length G109.length _ _ va vb _ _ (by omega) (by omega) ((sm109.trans (Same.of_prefix gp110)).trans (q3.mono (fun j _ e => by omega))) q2 (r1.keep q3 (fun j hj e => by omega)) (r2.keep q3 (fun j hj e => by omega)) (by rw [sortB_len]; simp only [List.length_append]; omega) (by rw [sortB_len]; simp only [List.length_append]; omega) (by simp [upF, Fr.get, Up.refl])
                · have gc111 := sb1 G105 sm105
                  obtain ⟨G111, ga111, gl111, gs111, gz111⟩ := app8 gt105_2 (bs := rb.o) lb1
                  have gt111_9 := Same.get gs111 gb105_9 (by omega)
                  have sm111 := sm105.trans (gs111.mono (fun j _ e => show H5.length <= j by omega))
                  try simp (maxSteps := 1000000) [go_sem, hia5, hib5, ca0, ca1, ca2, cb1, cb2, ou1, ou2, ou3, ou4, gc111, ga111]
                  refine andK_intro (fun i hi => by have hi : i < H5.length := hi; exact gs111.2 i (by omega) (by omega)) ?_
                  try simp (maxSteps := 1000000) [go_sem, hia5, hib5, ca0, ca1, ca2, cb1, cb2, ou1, ou2, ou3, ou4]
                  refine vGS_alt ?_ ?_
                  · have gp112 : G111 <+: G111 ++ [(⟨[.int .i64 0, .slice none 0 0, .slice none 0 0], true, true⟩ : Blk)] := List.prefix_append _ _
                    have gb112_17 : (G111 ++ [(⟨[.int .i64 0, .slice none 0 0, .slice none 0 0], true, true⟩ : Blk)])[G111.length]? = some ⟨[.int .i64 0, .slice none 0 0, .slice none 0 0], true, true⟩ := by simp
                    have gz112 : (G111 ++ [(⟨[.int .i64 0, .slice none 0 0, .slice none 0 0], true, true⟩ : Blk)]).length = G111.length + 1 := by simp
                    try simp (maxSteps := 1000000) [go_sem, hia5, hib5, ca0, ca1, ca2, cb1, cb2, ou1, ou2, ou3, ou4]
                    refine andK_intro (fun i hi => List.getElem?_append_left (by have hi : i < H5.length := hi; omega)) ?_
                    generalize G111 ++ [(⟨[.int .i64 0, .slice none 0 0, .slice none 0 0], true, true⟩ : Blk)] = G112 at gp112 gb112_17 gz112 ⊢
                    have gt112_9 := pget gp112 gt111_9
                    have gt112_2 := (gl111).keep (S := fun _ => False) (Same.of_prefix gp112) (fun e => e)
                    have sm112 := sm111.trans (Same.of_prefix gp112)
                    have gc113 := sa2 G112 sm112
                    obtain ⟨G113, ga113, gl113, gp113, gz113⟩ := app4 gt112_9 (bs := ra.i) la2
                    have gt113_2 := (gt112_2).keep (S := fun _ => False) (Same.of_prefix gp113) (fun e => e)
                    have gt113_17 := pget gp113 gb112_17
                    have sm113 := sm112.trans (Same.of_prefix gp113)
                    try simp (maxSteps := 1000000) [go_sem, hia5, hib5, ca0, ca1, ca2, cb1, cb2, ou1, ou2, ou3, ou4, gc113, ga113]
                    refine andK_intro (fun i hi => by have hi : i < H5.length := hi; exact (Same.of_prefix (S := fun _ => False) gp113).2 i (by omega) (fun e => e)) ?_
                    have gc114 := sb2 G113 sm113
                    obtain ⟨G114, ga114, gl114, gs114, gz114⟩ := app8 gl113 (bs := rb.i) lb2
                    have gt114_2 := (gt113_2).keep gs114 (by omega)
                    have gt114_17 := Same.get gs114 gt113_17 (by omega)
                    have sm114 := sm113.trans (gs114.mono (fun j _ e => show H5.length <= j by omega))
                    try simp (maxSteps := 1000000) [go_sem, hia5, hib5, ca0, ca1, ca2, cb1, cb2, ou1, ou2, ou3, ou4, gc114, ga114]
                    refine andK_intro (fun i hi => by have hi : i < H5.length := hi; exact gs114.2 i (by omega) (by omega)) ?_
                    try simp (maxSteps := 1000000) [go_sem, hia5, hib5, ca0, ca1, ca2, cb1, cb2, ou1, ou2, ou3, ou4]
                    refine l04Made_ok (OL.read8 gt114_2 la1 lb1) (OL.read8 gl114 la2 lb2) (by simp only [List.length_append]; omega) (by simp only [List.length_append]; omega) _ ?_
                    intro G115 va vb gp115 hab
                    have gle115 := gp115.length_le
                    have oneab : va.oneCell' = true /\ vb.oneCell' = true := ⟨hab.read.1.one, hab.read.2.one⟩
                    obtain ⟨r1, r2⟩ := hab.rin
                    have gbx := pget gp115 gt114_17
                    obtain ⟨_, _, _, _, g⟩ := trb_cells gbx
                    obtain ⟨q1, q2, q3⟩ := g ra.p va vb oneab.1 oneab.2
                    simp (maxSteps := 1000000) [go_sem, hia5, hib5, ca0, ca1, ca2, cb1, cb2, ou1, ou2, ou3, ou4, tradeV, oneab.1, oneab.2, q1]
                    exact endm G111.length G114.length _ _ va vb _ _ (by omega) (by omega) ((sm114.trans (Same.of_prefix gp115)).trans (q3.mono (fun j _ e => by omega))) q2 (r1.keep q3 (fun j hj e => by omega)) (r2.keep q3 (fun j hj e => by omega)) (by rw [sortB_len]; simp only [List.length_append]; omega) (by rw [sortB_len]; simp only [List.length_append]; omega) (by simp [upF, Fr.get, Up.refl])
                  · have gc116 := sa2 G111 sm111
                    obtain ⟨G116, ga116, gl116, gp116, gz116⟩ := app4 gt111_9 (bs := ra.i) la2
                    have gt116_2 := (gl111).keep (S := fun _ => False) (Same.of_prefix gp116) (fun e => e)
                    have sm116 := sm111.trans (Same.of_prefix gp116)
                    try simp (maxSteps := 1000000) [go_sem, hia5, hib5, ca0, ca1, ca2, cb1, cb2, ou1, ou2, ou3, ou4, gc116, ga116]
                    refine andK_intro (fun i hi => by have hi : i < H5.length := hi; exact (Same.of_prefix (S := fun _ => False) gp116).2 i (by omega) (fun e => e)) ?_
                    try simp (maxSteps := 1000000) [go_sem, hia5, hib5, ca0, ca1, ca2, cb1, cb2, ou1, ou2, ou3, ou4]
                    refine vGS_alt ?_ ?_
                    · have gp117 : G116 <+: G116 ++ [(⟨[.int .i64 0, .slice none 0 0, .slice none 0 0], true, true⟩ : Blk)] := List.prefix_append _ _
                      have gb117_17 : (G116 ++ [(⟨[.int .i64 0, .slice none 0 0, .slice none 0 0], true, true⟩ : Blk)])[G116.length]? = some ⟨[.int .i64 0, .slice none 0 0, .slice none 0 0], true, true⟩ := by simp
                      have gz117 : (G116 ++ [(⟨[.int .i64 0, .slice none 0 0, .slice none 0 0], true, true⟩ : Blk)]).length = G116.length + 1 := by simp
                      try simp (maxSteps := 1000000) [go_sem, hia5, hib5, ca0, ca1, ca2, cb1, cb2, ou1, ou2, ou3, ou4]
                      refine andK_intro (fun i hi => List.getElem?_append_left (by have hi : i < H5.length := hi; omega)) ?_
                      generalize G116 ++ [(⟨[.int .i64 0, .slice none 0 0, .slice none 0 0], true, true⟩ : Blk)] = G117 at gp117 gb117_17 gz117 ⊢
                      have gt117_2 := (gt116_2).keep (S := fun _ => False) (Same.of_prefix gp117) (fun e => e)
                      have gt117_9 := (gl116).keep (S := fun _ => False) (Same.of_prefix gp117) (fun e => e)
                      have sm117 := sm116.trans (Same.of_prefix gp117)
                      have gc118 := sb2 G117 sm117
                      obtain ⟨G118, ga118, gl118, gs118, gz118⟩ := app8 gt117_9 (bs := rb.i) lb2
                      have gt118_2 := (gt117_2).keep gs118 (by omega)
                      have gt118_17 := Same.get gs118 gb117_17 (by omega)
                      have sm118 := sm117.trans (gs118.mono (fun j _ e => show H5.length <= j by omega))
                      try simp (maxSteps := 1000000) [go_sem, hia5, hib5, ca0, ca1, ca2, cb1, cb2, ou1, ou2, ou3, ou4, gc118, ga118]
                      refine andK_intro (fun i hi => by have hi : i < H5.length := hi; exact gs118.2 i (by omega) (by omega)) ?_
                      try simp (maxSteps := 1000000) [go_sem, hia5, hib5, ca0, ca1, ca2, cb1, cb2, ou1, ou2, ou3, ou4]
                      refine l04Made_ok (OL.read8 gt118_2 la1 lb1) (OL.read8 gl118 la2 lb2) (by simp only [List.length_append]; omega) (by simp only [List.length_append]; omega) _ ?_
                      intro G119 va vb gp119 hab
                      have gle119 := gp119.length_le
                      have oneab : va.oneCell' = true /\ vb.oneCell' = true := ⟨hab.read.1.one, hab.read.2.one⟩
                      obtain ⟨r1, r2⟩ := hab.rin
                      have gbx := pget gp119 gt118_17
                      obtain ⟨_, _, _, _, g⟩ := trb_cells gbx
                      obtain ⟨q1, q2, q3⟩ := g ra.p va vb oneab.1 oneab.2
                      simp (maxSteps := 1000000) [go_sem, hia5, hib5, ca0, ca1, ca2, cb1, cb2, ou1, ou2, ou3, ou4, tradeV, oneab.1, oneab.2, q1]
                      exact endm G116.length G118.length _ _ va vb _ _ (by omega) (by omega) ((sm118.trans (Same.of_prefix gp119)).trans (q3.mono (fun j _ e => by omega))) q2 (r1.keep q3 (fun j hj e => by omega)) (r2.keep q3 (fun j hj e => by omega)) (by rw [sortB_len]; simp only [List.length_append]; omega) (by rw [sortB_len]; simp only [List.length_append]; omega) (by simp [upF, Fr.get, Up.refl])
                    · have gc120 := sb2 G116 sm116
                      obtain ⟨G120, ga120, gl120, gs120, gz120⟩ := app8 gl116 (bs := rb.i) lb2
                      have gt120_2 := (gt116_2).keep gs120 (by omega)
                      have sm120 := sm116.trans (gs120.mono (fun j _ e => show H5.length <= j by omega))
                      try simp (maxSteps := 1000000) [go_sem, hia5, hib5, ca0, ca1, ca2, cb1, cb2, ou1, ou2, ou3, ou4, gc120, ga120]
                      refine andK_intro (fun i hi => by have hi : i < H5.length := hi; exact gs120.2 i (by omega) (by omega)) ?_
                      try simp (maxSteps := 1000000) [go_sem, hia5, hib5, ca0, ca1, ca2, cb1, cb2, ou1, ou2, ou3, ou4]
                      refine vGS_alt ?_ ?_
                      · have gp121 : G120 <+: G120 ++ [(⟨[.int .i64 0, .slice none 0 0, .slice none 0 0], true, true⟩ : Blk)] := List.prefix_append _ _
                        have gb121_17 : (G120 ++ [(⟨[.int .i64 0, .slice none 0 0, .slice none 0 0], true, true⟩ : Blk)])[G120.length]? = some ⟨[.int .i64 0, .slice none 0 0, .slice none 0 0], true, true⟩ := by simp
                        have gz121 : (G120 ++ [(⟨[.int .i64 0, .slice none 0 0, .slice none 0 0], true, true⟩ : Blk)]).length = G120.length + 1 := by simp
                        try simp (maxSteps := 1000000) [go_sem, hia5, hib5, ca0, ca1, ca2, cb1, cb2, ou1, ou2, ou3, ou4]
                        refine andK_intro (fun i hi => List.getElem?_append_left (by have hi : i < H5.length := hi; omega)) ?_
                        generalize G120 ++ [(⟨[.int .i64 0, .slice none 0 0, .slice none 0 0], true, true⟩ : Blk)] = G121 at gp121 gb121_17 gz121 ⊢
                        have gt121_2 := (gt120_2).keep (S := fun _ => False) (Same.of_prefix gp121) (fun e => e)
                        have gt121_9 := (gl120).keep (S := fun _ => False) (Same.of_prefix gp121) (fun e => e)
                        have sm121 := sm120.trans (Same.of_prefix gp121)
                        try simp (maxSteps := 1000000) [go_sem, hia5, hib5, ca0, ca1, ca2, cb1, cb2, ou1, ou2, ou3, ou4]
                        refine l04Made_ok (OL.read8 gt121_2 la1 lb1) (OL.read8 gt121_9 la2 lb2) (by simp only [List.length_append]; omega) (by simp only [List.length_append]; omega) _ ?_
                        intro G122 va vb gp122 hab
                        have gle122 := gp122.length_le
                        have oneab : va.oneCell' = true /\ vb.oneCell' = true := ⟨hab.read.1.one, hab.read.2.one⟩
                        obtain ⟨r1, r2⟩ := hab.rin
                        have gbx := pget gp122 gb121_17
                        obtain ⟨_, _, _, _, g⟩ := trb_cells gbx
                        obtain ⟨q1, q2, q3⟩ := g ra.p va vb oneab.1 oneab.2
                        simp (maxSteps := 1000000) [go_sem, hia5, hib5, ca0, ca1, ca2, cb1, cb2, ou1, ou2, ou3, ou4, tradeV, oneab.1, oneab.2, q1]
                        exact endm G120.length G121.length _ _ va vb _ _ (by omega) (by omega) ((sm121.trans (Same.of_prefix gp122)).trans (q3.mono (fun j _ e => by omega))) q2 (r1.keep q3 (fun j hj e => by omega)) (r2.keep q3 (fun j hj e => by omega)) (by rw [sortB_len]; simp only [List.length_append]; omega) (by rw [sortB_len]; simp only [List.length_append]; omega) (by simp [upF, Fr.get, Up.refl])
                      · try simp (maxSteps := 1000000) [go_sem, hia5, hib5, ca0, ca1, ca2, cb1, cb2, ou1, ou2, ou3, ou4]
                        refine l04Made_ok (OL.read8 gt120_2 la1 lb1) (OL.read8 gl120 la2 lb2) (by simp only [List.length_append]; omega) (by simp only [List.length_append]; omega) _ ?_
                        intro G123 va vb gp123 hab
                        have gle123 := gp123.length_le
                        have oneab : va.oneCell' = true /\ vb.oneCell' = true := ⟨hab.read.1.one, hab.read.2.one⟩
                        obtain ⟨r1, r2⟩ := hab.rin
                        have gpx : G123 <+: G123 ++ [(⟨[.int .i64 ra.p, va, vb], true, true⟩ : Blk)] := List.prefix_append _ _
                        try simp (maxSteps := 1000000) [go_sem, hia5, hib5, ca0, ca1, ca2, cb1, cb2, ou1, ou2, ou3, ou4, tradeV, oneab.1, oneab.2]
                        refine andK_intro (fun i hi => List.getElem?_append_left (by have hi : i < H5.length := hi; omega)) ?_
                        try simp (maxSteps := 1000000) [go_sem, hia5, hib5, ca0, ca1, ca2, cb1, cb2, ou1, ou2, ou3, ou4, oneab.1, oneab.2]
                        exact endm G123.length G120.length _ _ va vb _ _ (by omega) (by omega) ((sm120.trans (Same.of_prefix gp123)).trans (Same.of_prefix gpx)) (by simp) (r1.keep (S := fun _ => False) (Same.of_prefix gpx) (fun _ _ e => e)) (r2.keep (S := fun _ => False) (Same.of_prefix gpx) (fun _ _ e => e)) (by rw [sortB_len]; simp only [List.length_append]; omega) (by rw [sortB_len]; simp only [List.length_append]; omega) (by simp [upF, Fr.get, Up.refl])
              · try simp (maxSteps := 1000000) [go_sem, hia5, hib5, ca0, ca1, ca2, cb1, cb2, ou1, ou2, ou3, ou4]
                refine vGS_alt ?_ ?_
                · have gp124 : G104 <+: G104 ++ [(⟨[.int .i64 0, .slice none 0 0, .slice none 0 0], true, true⟩ : Blk)] := List.prefix_append _ _
                  have gb124_17 : (G104 ++ [(⟨[.int .i64 0, .slice none 0 0, .slice none 0 0], true, true⟩ : Blk)])[G104.length]? = some ⟨[.int .i64 0, .slice none 0 0, .slice none 0 0], true, true⟩ := by simp
                  have gz124 : (G104 ++ [(⟨[.int .i64 0, .slice none 0 0, .slice none 0 0], true, true⟩ : Blk)]).length = G104.length + 1 := by simp
                  try simp (maxSteps := 1000000) [go_sem, hia5, hib5, ca0, ca1, ca2, cb1, cb2, ou1, ou2, ou3, ou4]
                  refine andK_intro (fun i hi => List.getElem?_append_left (by have hi : i < H5.length := hi; omega)) ?_
                  generalize G104 ++ [(⟨[.int .i64 0, .slice none 0 0, .slice none 0 0], true, true⟩ : Blk)] = G124 at gp124 gb124_17 gz124 ⊢
                  have gt124_2 := (gl104).keep (S := fun _ => False) (Same.of_prefix gp124) (fun e => e)
                  have sm124 := sm104.trans (Same.of_prefix gp124)
                  try simp (maxSteps := 1000000) [go_sem, hia5, hib5, ca0, ca1, ca2, cb1, cb2, ou1, ou2, ou3, ou4]
                  refine vGS_alt ?_ ?_
                  · have gp125 : G124 <+: G124 ++ [(⟨[], true, true⟩ : Blk)] := List.prefix_append _ _
                    have gb125_9 : (G124 ++ [(⟨[], true, true⟩ : Blk)])[G124.length]? = some ⟨[], true, true⟩ := by simp
                    have gz125 : (G124 ++ [(⟨[], true, true⟩ : Blk)]).length = G124.length + 1 := by simp
                    try simp (maxSteps := 1000000) [go_sem, hia5, hib5, ca0, ca1, ca2, cb1, cb2, ou1, ou2, ou3, ou4]
                    refine andK_intro (fun i hi => List.getElem?_append_left (by have hi : i < H5.length := hi; omega)) ?_
                    generalize G124 ++ [(⟨[], true, true⟩ : Blk)] = G125 at gp125 gb125_9 gz125 ⊢
                    have gt125_2 := (gt124_2).keep (S := fun _ => False) (Same.of_prefix gp125) (fun e => e)
                    have gt125_17 := pget gp125 gb124_17
                    have sm125 := sm124.trans (Same.of_prefix gp125)
                    have gc126 := sb1 G125 sm125
                    obtain ⟨G126, ga126, gl126, gs126, gz126⟩ := app8 gt125_2 (bs := rb.o) lb1
                    have gt126_17 := Same.get gs126 gt125_17 (by omega)
                    have gt126_9 := Same.get gs126 gb125_9 (by omega)
                    have sm126 := sm125.trans (gs126.mono (fun j _ e => show H5.length <= j by omega))
                    try simp (maxSteps := 1000000) [go_sem, hia5, hib5, ca0, ca1, ca2, cb1, cb2, ou1, ou2, ou3, ou4, gc126, ga126]
                    refine andK_intro (fun i hi => by have hi : i < H5.length := hi; exact gs126.2 i (by omega) (by omega)) ?_
                    have gc127 := sa2 G126 sm126
                    obtain ⟨G127, ga127, gl127, gp127, gz127⟩ := app4 gt126_9 (bs := ra.i) la2
                    have gt127_17 := pget gp127 gt126_17
                    have gt127_2 := (gl126).keep (S := fun _ => False) (Same.of_prefix gp127) (fun e => e)
                    have sm127 := sm126.trans (Same.of_prefix gp127)
                    try simp (maxSteps := 1000000) [go_sem, hia5, hib5, ca0, ca1, ca2, cb1, cb2, ou1, ou2, ou3, ou4, gc127, ga127]
                    refine andK_intro (fun i hi => by have hi : i < H5.length := hi; exact (Same.of_prefix (S := fun _ => False) gp127).2 i (by omega) (fun e => e)) ?_
                    have gc128 := sb2 G127 sm127
                    obtain ⟨G128, ga128, gl128, gs128, gz128⟩ := app8 gl127 (bs := rb.i) lb2
                    have gt128_17 := Same.get gs128 gt127_17 (by omega)
                    have gt128_2 := (gt127_2).keep gs128 (by omega)
                    have sm128 := sm127.trans (gs128.mono (fun j _ e => show H5.length <= j by omega))
                    try simp (maxSteps := 1000000) [go_sem, hia5, hib5, ca0, ca1, ca2, cb1, cb2, ou1, ou2, ou3, ou4, gc128, ga128]
                    refine andK_intro (fun i hi => by have hi : i < H5.length := hi; exact gs128.2 i (by omega) (by omega)) ?_
                    try simp (maxSteps := 1000000) [go_sem, hia5, hib5, ca0, ca1, ca2, cb1, cb2, ou1, ou2, ou3, ou4]
                    refine l04Made_ok (OL.read8 gt128_2 la1 lb1) (OL.read8 gl128 la2 lb2) (by simp only [List.length_append]; omega) (by simp only [List.length_append]; omega) _ ?_
                    intro G129 va vb gp129 hab
                    have gle129 := gp129.length_le
                    have oneab : va.oneCell' = true /\ vb.oneCell' = true := ⟨hab.read.1.one, hab.read.2.one⟩
                    obtain ⟨r1, r2⟩ := hab.rin
                    have gbx := pget gp129 gt128_17
                    obtain ⟨_, _, _, _, g⟩ := trb_cells gbx
                    obtain ⟨q1, q2, q3⟩ := g ra.p va vb oneab.1 oneab.2
                    simp (maxSteps := 1000000) [go_sem, hia5, hib5, ca0, ca1, ca2, cb1, cb2, ou1, ou2, ou3, ou4, tradeV, oneab.1, oneab.2, q1]
                    exact endm G104.length G128.length _ _ va vb _ _ (by omega) (by omega) ((sm128.trans (Same.of_prefix gp129)).trans (q3.mono (fun j _ e => by omega))) q2 (r1.keep q3 (fun j hj e => by omega)) (r2.keep q3 (fun j hj e => by omega)) (by rw [sortB_len]; simp only [List.length_append]; omega) (by rw [sortB_len]; simp only [List.length_append]; omega) (by simp [upF, Fr.get, Up.refl])
                  · have gc130 := sb1 G124 sm124
                    obtain ⟨G130, ga130, gl130, gs130, gz130⟩ := app8 gt124_2 (bs := rb.o) lb1
                    have gt130_17 := Same.get gs130 gb124_17 (by omega)
                    have sm130 := sm124.trans (gs130.mono (fun j _ e => show H5.length <= j by omega))
                    try simp (maxSteps := 1000000) [go_sem, hia5, hib5, ca0, ca1, ca2, cb1, cb2, ou1, ou2, ou3, ou4, gc130, ga130]
                    refine andK_intro (fun i hi => by have hi : i < H5.length := hi; exact gs130.2 i (by omega) (by omega)) ?_
                    have gp131 : G130 <+: G130 ++ [(⟨[], true, true⟩ : Blk)] := List.prefix_append _ _
                    have gb131_9 : (G130 ++ [(⟨[], true, true⟩ : Blk)])[G130.length]? = some ⟨[], true, true⟩ := by simp
                    have gz131 : (G130 ++ [(⟨[], true, true⟩ : Blk)]).length = G130.length + 1 := by simp
                    try simp (maxSteps := 1000000) [go_sem, hia5, hib5, ca0, ca1, ca2, cb1, cb2, ou1, ou2, ou3, ou4]
                    refine andK_intro (fun i hi => List.getElem?_append_left (by have hi : i < H5.length := hi; omega)) ?_
                    generalize G130 ++ [(⟨[], true, true⟩ : Blk)] = G131 at gp131 gb131_9 gz131 ⊢
                    have gt131_17 := pget gp131 gt130_17
                    have gt131_2 := (gl130).keep (S := fun _ => False) (Same.of_prefix gp131) (fun e => e)
                    have sm131 := sm130.trans (Same.of_prefix gp131)
                    have gc132 := sa2 G131 sm131
                    obtain ⟨G132, ga132, gl132, gp132, gz132⟩ := app4 gb131_9 (bs := ra.i) la2
                    have gt132_17 := pget gp132 gt131_17
                    have gt132_2 := (gt131_2).keep (S := fun _ => False) (Same.of_prefix gp132) (fun e => e)
                    have sm132 := sm131.trans (Same.of_prefix gp132)
                    try simp (maxSteps := 1000000) [go_sem, hia5, hib5, ca0, ca1, ca2, cb1, cb2, ou1, ou2, ou3, ou4, gc132, ga132]
                    refine andK_intro (fun i hi => by have hi : i < H5.length := hi; exact (Same.of_prefix (S := fun _ => False) gp132).2 i (by omega) (fun e => e)) ?_
                    have gc133 := sb2 G132 sm132
                    obtain ⟨G133, ga133, gl133, gs133, gz133⟩ := app8 gl132 (bs := rb.i) lb2
                    have gt133_17 := Same.get gs133 gt132_17 (by omega)
                    have gt133_2 := (gt132_2).keep gs133 (by omega)
                    have sm133 := sm132.trans (gs133.mono (fun j _ e => show H5.length <= j by omega))
                    try simp (maxSteps := 1000000) [go_sem, hia5, hib5, ca0, ca1, ca2, cb1, cb2, ou1, ou2, ou3, ou4, gc133, ga133]
                    refine andK_intro (fun i hi => by have hi : i < H5.length := hi; exact gs133.2 i (by omega) (by omega)) ?_
                    try simp (maxSteps := 1000000) [go_sem, hia5, hib5, ca0, ca1, ca2, cb1, cb2, ou1, ou2, ou3, ou4]
                    refine l04Made_ok (OL.read8 gt133_2 la1 lb1) (OL.read8 gl133 la2 lb2) (by simp only [List.length_append]; omega) (by simp only [List.length_append]; omega) _ ?_
                    intro G134 va vb gp134 hab
                    have gle134 := gp134.length_le
                    have oneab : va.oneCell' = true /\ vb.oneCell' = true := ⟨hab.read.1.one, hab.read.2.one⟩
                    obtain ⟨r1, r2⟩ := hab.rin
                    have gbx := pget gp134 gt133_17
                    obtain ⟨_, _, _, _, g⟩ := trb_cells gbx
                    obtain ⟨q1, q2, q3⟩ := g ra.p va vb oneab.1 oneab.2
                    simp (maxSteps := 1000000) [go_sem, hia5, hib5, ca0, ca1, ca2, cb1, cb2, ou1, ou2, ou3, ou4, tradeV, oneab.1, oneab.2, q1]
                    exact endm G104.length G133.length _ _ va vb _ _ (by omega) (by omega) ((sm133.trans (Same.of_prefix gp134)).trans (q3.mono (fun j _ e => by omega))) q2 (r1.keep q3 (fun j hj e => by omega)) (r2.keep q3 (fun j hj e => by omega)) (by rw [sortB_len]; simp only [List.length_append]; omega) (by rw [sortB_len]; simp only [List.length_append]; omega) (by simp [upF, Fr.get, Up.refl])
                · have gc135 := sb1 G104 sm104
                  obtain ⟨G135, ga135, gl135, gs135, gz135⟩ := app8 gl104 (bs := rb.o) lb1
                  have sm135 := sm104.trans (gs135.mono (fun j _ e => show H5.length <= j by omega))
                  try simp (maxSteps := 1000000) [go_sem, hia5, hib5, ca0, ca1, ca2, cb1, cb2, ou1, ou2, ou3, ou4, gc135, ga135]
                  refine andK_intro (fun i hi => by have hi : i < H5.length := hi; exact gs135.2 i (by omega) (by omega)) ?_
                  try simp (maxSteps := 1000000) [go_sem, hia5, hib5, ca0, ca1, ca2, cb1, cb2, ou1, ou2, ou3, ou4]
                  refine vGS_alt ?_ ?_
                  · have gp136 : G135 <+: G135 ++ [(⟨[.int .i64 0, .slice none 0 0, .slice none 0 0], true, true⟩ : Blk), ⟨[], true, true⟩] := List.prefix_append _ _
                    have gb136_17 : (G135 ++ [(⟨[.int .i64 0, .slice none 0 0, .slice none 0 0], true, true⟩ : Blk), ⟨[], true, true⟩])[G135.length]? = some ⟨[.int .i64 0, .slice none 0 0, .slice none 0 0], true, true⟩ := by simp
                    have gb136_9 : (G135 ++ [(⟨[.int .i64 0, .slice none 0 0, .slice none 0 0], true, true⟩ : Blk), ⟨[], true, true⟩])[G135.length + 1]? = some ⟨[], true, true⟩ := by simp
                    have gz136 : (G135 ++ [(⟨[.int .i64 0, .slice none 0 0, .slice none 0 0], true, true⟩ : Blk), ⟨[], true, true⟩]).length = G135.length + 2 := by simp
                    try simp (maxSteps := 1000000) [go_sem, hia5, hib5, ca0, ca1, ca2, cb1, cb2, ou1, ou2, ou3, ou4]
                    refine andK_intro (fun i hi => List.getElem?_append_left (by have hi : i < H5.length := hi; omega)) ?_
                    refine andK_intro (fun i hi => by have hi : i < H5.length := hi; rw [List.getElem?_append_left (by omega), List.getElem?_append_left (by omega)]) ?_
                    generalize G135 ++ [(⟨[.int .i64 0, .slice none 0 0, .slice none 0 0], true, true⟩ : Blk), ⟨[], true, true⟩] = G136 at gp136 gb136_17 gb136_9 gz136 ⊢
                    have gt136_2 := (gl135).keep (S := fun _ => False) (Same.of_prefix gp136) (fun e => e)
                    have sm136 := sm135.trans (Same.of_prefix gp136)
                    have gc137 := sa2 G136 sm136
                    obtain ⟨G137, ga137, gl137, gp137, gz137⟩ := app4 gb136_9 (bs := ra.i) la2
                    have gt137_2 := (gt136_2).keep (S := fun _ => False) (Same.of_prefix gp137) (fun e => e)
                    have gt137_17 := pget gp137 gb136_17
                    have sm137 := sm136.trans (Same.of_prefix gp137)
                    try simp (maxSteps := 1000000) [go_sem, hia5, hib5, ca0, ca1, ca2, cb1, cb2, ou1, ou2, ou3, ou4, gc137, ga137]
                    refine andK_intro (fun i hi => by have hi : i < H5.length := hi; exact (Same.of_prefix (S := fun _ => False) gp137).2 i (by omega) (fun e => e)) ?_
                    have gc138 := sb2 G137 sm137
                    obtain ⟨G138, ga138, gl138, gs138, gz138⟩ := app8 gl137 (bs := rb.i) lb2
                    have gt138_2 := (gt137_2).keep gs138 (by omega)
                    have gt138_17 := Same.get gs138 gt137_17 (by omega)
                    have sm138 := sm137.trans (gs138.mono (fun j _ e => show H5.length <= j by omega))
                    try simp (maxSteps := 1000000) [go_sem, hia5, hib5, ca0, ca1, ca2, cb1, cb2, ou1, ou2, ou3, ou4, gc138, ga138]
                    refine andK_intro (fun i hi => by have hi : i < H5.length := hi; exact gs138.2 i (by omega) (by omega)) ?_
                    try simp (maxSteps := 1000000) [go_sem, hia5, hib5, ca0, ca1, ca2, cb1, cb2, ou1, ou2, ou3, ou4]
                    refine l04Made_ok (OL.read8 gt138_2 la1 lb1) (OL.read8 gl138 la2 lb2) (by simp only [List.length_append]; omega) (by simp only [List.length_append]; omega) _ ?_
                    intro G139 va vb gp139 hab
                    have gle139 := gp139.length_le
                    have oneab : va.oneCell' = true /\ vb.oneCell' = true := ⟨hab.read.1.one, hab.read.2.one⟩
                    obtain ⟨r1, r2⟩ := hab.rin
                    have gbx := pget gp139 gt138_17
                    obtain ⟨_, _, _, _, g⟩ := trb_cells gbx
                    obtain ⟨q1, q2, q3⟩ := g ra.p va vb oneab.1 oneab.2
                    simp (maxSteps := 1000000) [go_sem, hia5, hib5, ca0, ca1, ca2, cb1, cb2, ou1, ou2, ou3, ou4, tradeV, oneab.1, oneab.2, q1]
                    exact endm G135.length G138.length _ _ va vb _ _ (by omega) (by omega) ((sm138.trans (Same.of_prefix gp139)).trans (q3.mono (fun j _ e => by omega))) q2 (r1.keep q3 (fun j hj e => by omega)) (r2.keep q3 (fun j hj e => by omega)) (by rw [sortB_len]; simp only [List.length_append]; omega) (by rw [sortB_len]; simp only [List.length_append]; omega) (by simp [upF, Fr.get, Up.refl])
                  · have gp140 : G135 <+: G135 ++ [(⟨[], true, true⟩ : Blk)] := List.prefix_append _ _
                    have gb140_9 : (G135 ++ [(⟨[], true, true⟩ : Blk)])[G135.length]? = some ⟨[], true, true⟩ := by simp
                    have gz140 : (G135 ++ [(⟨[], true, true⟩ : Blk)]).length = G135.length + 1 := by simp
                    try simp (maxSteps := 1000000) [go_sem, hia5, hib5, ca0, ca1, ca2, cb1, cb2, ou1, ou2, ou3, ou4]
                    refine andK_intro (fun i hi => List.getElem?_append_left (by have hi : i < H5.length := hi; omega)) ?_
                    generalize G135 ++ [(⟨[], true, true⟩ : Blk)] = G140 at gp140 gb140_9 gz140 ⊢
                    have gt140_2 := (gl135).keep (S := fun _ => False) (Same.of_prefix gp140) (fun e => e)
                    have sm140 := sm135.trans (Same.of_prefix gp140)
                    try simp (maxSteps := 1000000) [go_sem, hia5, hib5, ca0, ca1, ca2, cb1, cb2, ou1, ou2, ou3, ou4]
                    refine vGS_alt ?_ ?_
                    · have gp141 : G140 <+: G140 ++ [(⟨[.int .i64 0, .slice none 0 0, .slice none 0 0], true, true⟩ : Blk)] := List.prefix_append _ _
                      have gb141_17 : (G140 ++ [(⟨[.int .i64 0, .slice none 0 0, .slice none 0 0], true, true⟩ : Blk)])[G140.length]? = some ⟨[.int .i64 0, .slice none 0 0, .slice none 0 0], true, true⟩ := by simp
                      have gz141 : (G140 ++ [(⟨[.int .i64 0, .slice none 0 0, .slice none 0 0], true, true⟩ : Blk)]).length = G140.length + 1 := by simp
                      try simp (maxSteps := 1000000) [go_sem, hia5, hib5, ca0, ca1, ca2, cb1, cb2, ou1, ou2, ou3, ou4]
                      refine andK_intro (fun i hi => List.getElem?_append_left (by have hi : i < H5.length := hi; omega)) ?_
                      generalize G140 ++ [(⟨[.int .i64 0, .slice none 0 0, .slice none 0 0], true, true⟩ : Blk)] = G141 at gp141 gb141_17 gz141 ⊢
                      have gt141_2 := (gt140_2).keep (S := fun _ => False) (Same.of_prefix gp141) (fun e => e)
                      have gt141_9 := pget gp141 gb140_9
                      have sm141 := sm140.trans (Same.of_prefix gp141)
                      have gc142 := sa2 G141 sm141
                      obtain ⟨G142, ga142, gl142, gp142, gz142⟩ := app4 gt141_9 (bs := ra.i) la2
                      have gt142_2 := (gt141_2).keep (S := fun _ => False) (Same.of_prefix gp142) (fun e => e)
                      have gt142_17 := pget gp142 gb141_17
                      have sm142 := sm141.trans (Same.of_prefix gp142)
                      try simp (maxSteps := 1000000) [go_sem, hia5, hib5, ca0, ca1, ca2, cb1, cb2, ou1, ou2, ou3, ou4, gc142, ga142]
                      refine andK_intro (fun i hi => by have hi : i < H5.length := hi; exact (Same.of_prefix (S := fun _ => False) gp142).2 i (by omega) (fun e => e)) ?_
                      have gc143 := sb2 G142 sm142
                      obtain ⟨G143, ga143, gl143, gs143, gz143⟩ := app8 gl142 (bs := rb.i) lb2
                      have gt143_2 := (gt142_2).keep gs143 (by omega)
                      have gt143_17 := Same.get gs143 gt142_17 (by omega)
                      have sm143 := sm142.trans (gs143.mono (fun j _ e => show H5.length <= j by omega))
                      try simp (maxSteps := 1000000) [go_sem, hia5, hib5, ca0, ca1, ca2, cb1, cb2, ou1, ou2, ou3, ou4, gc143, ga143]
                      refine andK_intro (fun i hi => by have hi : i < H5.length := hi; exact gs143.2 i (by omega) (by omega)) ?_
                      try simp (maxSteps := 1000000) [go_sem, hia5, hib5, ca0, ca1, ca2, cb1, cb2, ou1, ou2, ou3, ou4]
                      refine l04Made_ok (OL.read8 gt143_2 la1 lb1) (OL.read8 gl143 la2 lb2) (by simp only [List.length_append]; omega) (by simp only [List.length_append]; omega) _ ?_
                      intro G144 va vb gp144 hab
                      have gle144 := gp144.length_le
                      have oneab : va.oneCell' = true /\ vb.oneCell' = true := ⟨hab.read.1.one, hab.read.2.one⟩
                      obtain ⟨r1, r2⟩ := hab.rin
                      have gbx := pget gp144 gt143_17
                      obtain ⟨_, _, _, _, g⟩ := trb_cells gbx
                      obtain ⟨q1, q2, q3⟩ := g ra.p va vb oneab.1 oneab.2
                      simp (maxSteps := 1000000) [go_sem, hia5, hib5, ca0, ca1, ca2, cb1, cb2, ou1, ou2, ou3, ou4, tradeV, oneab.1, oneab.2, q1]
                      exact endm G140.length G143.length _ _ va vb _ _ (by omega) (by omega) ((sm143.trans (Same.of_prefix gp144)).trans (q3.mono (fun j _ e => by omega))) q2 (r1.keep q3 (fun j hj e => by omega)) (r2.keep q3 (fun j hj e => by omega)) (by rw [sortB_len]; simp only [List.length_append]; omega) (by rw [sortB_len]; simp only [List.length_append]; omega) (by simp [upF, Fr.get, Up.refl])
                    · have gc145 := sa2 G140 sm140
                      obtain ⟨G145, ga145, gl145, gp145, gz145⟩ := app4 gb140_9 (bs := ra.i) la2
                      have gt145_2 := (gt140_2).keep (S := fun _ => False) (Same.of_prefix gp145) (fun e => e)
                      have sm145 := sm140.trans (Same.of_prefix gp145)
                      try simp (maxSteps := 1000000) [go_sem, hia5, hib5, ca0, ca1, ca2, cb1, cb2, ou1, ou2, ou3, ou4, gc145, ga145]
                      refine andK_intro (fun i hi => by have hi : i < H5.length := hi; exact (Same.of_prefix (S := fun _ => False) gp145).2 i (by omega) (fun e => e)) ?_
                      try simp (maxSteps := 1000000) [go_sem, hia5, hib5, ca0, ca1, ca2, cb1, cb2, ou1, ou2, ou3, ou4]
                      refine vGS_alt ?_ ?_
                      · have gp146 : G145 <+: G145 ++ [(⟨[.int .i64 0, .slice none 0 0, .slice none 0 0], true, true⟩ : Blk)] := List.prefix_append _ _
                        have gb146_17 : (G145 ++ [(⟨[.int .i64 0, .slice none 0 0, .slice none 0 0], true, true⟩ : Blk)])[G145.length]? = some ⟨[.int .i64 0, .slice none 0 0, .slice none 0 0], true, true⟩ := by simp
                        have gz146 : (G145 ++ [(⟨[.int .i64 0, .slice none 0 0, .slice none 0 0], true, true⟩ : Blk)]).length = G145.length + 1 := by simp
                        try simp (maxSteps := 1000000) [go_sem, hia5, hib5, ca0, ca1, ca2, cb1, cb2, ou1, ou2, ou3, ou4]
                        refine andK_intro (fun i hi => List.getElem?_append_left (by have hi : i < H5.length := hi; omega)) ?_
                        generalize G145 ++ [(⟨[.int .i64 0, .slice none 0 0, .slice none 0 0], true, true⟩ : Blk)] = G146 at gp146 gb146_17 gz146 ⊢
                        have gt146_2 := (gt145_2).keep (S := fun _ => False) (Same.of_prefix gp146) (fun e => e)
                        have gt146_9 := (gl145).keep (S := fun _ => False) (Same.of_prefix gp146) (fun e => e)
                        have sm146 := sm145.trans (Same.of_prefix gp146)
                        have gc147 := sb2 G146 sm146
                        obtain ⟨G147, ga147, gl147, gs147, gz147⟩ := app8 gt146_9 (bs := rb.i) lb2
                        have gt147_2 := (gt146_2).keep gs147 (by omega)
                        have gt147_17 := Same.get gs147 gb146_17 (by omega)
                        have sm147 := sm146.trans (gs147.mono (fun j _ e => show H5.length <= j by omega))
                        try simp (maxSteps := 1000000) [go_sem, hia5, hib5, ca0, ca1, ca2, cb1, cb2, ou1, ou2, ou3, ou4, gc147, ga147]
                        refine andK_intro (fun i hi => by have hi : i < H5.length := hi; exact gs147.2 i (by omega) (by omega)) ?_
                        try simp (maxSteps := 1000000) [go_sem, hia5, hib5, ca0, ca1, ca2, cb1, cb2, ou1, ou2, ou3, ou4]
                        refine l04Made_ok (OL.read8 gt147_2 la1 lb1) (OL.read8 gl147 la2 lb2) (by simp only [List.length_append]; omega) (by simp only [List.length_append]; omega) _ ?_
                        intro G148 va vb gp148 hab
                        have gle148 := gp148.length_le
                        have oneab : va.oneCell' = true /\ vb.oneCell' = true := ⟨hab.read.1.one, hab.read.2.one⟩
                        obtain ⟨r1, r2⟩ := hab.rin
                        have gbx := pget gp148 gt147_17
                        obtain ⟨_, _, _, _, g⟩ := trb_cells gbx
                        obtain ⟨q1, q2, q3⟩ := g ra.p va vb oneab.1 oneab.2
                        simp (maxSteps := 1000000) [go_sem, hia5, hib5, ca0, ca1, ca2, cb1, cb2, ou1, ou2, ou3, ou4, tradeV, oneab.1, oneab.2, q1]
                        exact endm G145.length G147.length _ _ va vb _ _ (by omega) (by omega) ((sm147.trans (Same.of_prefix gp148)).trans (q3.mono (fun j _ e => by omega))) q2 (r1.keep q3 (fun j hj e => by omega)) (r2.keep q3 (fun j hj e => by omega)) (by rw [sortB_len]; simp only [List.length_append]; omega) (by rw [sortB_len]; simp only [List.length_append]; omega) (by simp [upF, Fr.get, Up.refl])
                      · have gc149 := sb2 G145 sm145
                        obtain ⟨G149, ga149, gl149, gs149, gz149⟩ := app8 gl145 (bs := rb.i) lb2
                        have gt149_2 := (gt145_2).keep gs149 (by omega)
                        have sm149 := sm145.trans (gs149.mono (fun j _ e => show H5.length <= j by omega))
                        try simp (maxSteps := 1000000) [go_sem, hia5, hib5, ca0, ca1, ca2, cb1, cb2, ou1, ou2, ou3, ou4, gc149, ga149]
                        refine andK_intro (fun i hi => by have hi : i < H5.length := hi; exact gs149.2 i (by omega) (by omega)) ?_
                        try simp (maxSteps := 1000000) [go_sem, hia5, hib5, ca0, ca1, ca2, cb1, cb2, ou1, ou2, ou3, ou4]
                        refine vGS_alt ?_ ?_
                        · have gp150 : G149 <+: G149 ++ [(⟨[.int .i64 0, .slice none 0 0, .slice none 0 0], true, true⟩ : Blk)] := List.prefix_append _ _
                          have gb150_17 : (G149 ++ [(⟨[.int .i64 0, .slice none 0 0, .slice none 0 0], true, true⟩ : Blk)])[G149.length]? = some ⟨[.int .i64 0, .slice none 0 0, .slice none 0 0], true, true⟩ := by simp
                          have gz150 : (G149 ++ [(⟨[.int .i64 0, .slice none 0 0, .slice none 0 0], true, true⟩ : Blk)]).length = G149.length + 1 := by simp
                          try simp (maxSteps := 1000000) [go_sem, hia5, hib5, ca0, ca1, ca2, cb1, cb2, ou1, ou2, ou3, ou4]
                          refine andK_intro (fun i hi => List.getElem?_append_left (by have hi : i < H5.length := hi; omega)) ?_
                          generalize G149 ++ [(⟨[.int .i64 0, .slice none 0 0, .slice none 0 0], true, true⟩ : Blk)] = G150 at gp150 gb150_17 gz150 ⊢
                          have gt150_2 := (gt149_2).keep (S := fun _ => False) (Same.of_prefix gp150) (fun e => e)
                          have gt150_9 := (gl149).keep (S := fun _ => False) (Same.of_prefix gp150) (fun e => e)
                          have sm150 := sm149.trans (Same.of_prefix gp150)
                          try simp (maxSteps := 1000000) [go_sem, hia5, hib5, ca0, ca1, ca2, cb1, cb2, ou1, ou2, ou3, ou4]
                          refine l04Made_ok (OL.read8 gt150_2 la1 lb1) (OL.read8 gt150_9 la2 lb2) (by simp only [List.length_append]; omega) (by simp only [List.length_append]; omega) _ ?_
                          intro G151 va vb gp151 hab
                          have gle151 := gp151.length_le
                          have oneab : va.oneCell' = true /\ vb.oneCell' = true := ⟨hab.read.1.one, hab.read.2.one⟩
                          obtain ⟨r1, r2⟩ := hab.rin
                          have gbx := pget gp151 gb150_17
                          obtain ⟨_, _, _, _, g⟩ := trb_cells gbx
                          obtain ⟨q1, q2, q3⟩ := g ra.p va vb oneab.1 oneab.2
                          simp (maxSteps := 1000000) [go_sem, hia5, hib5, ca0, ca1, ca2, cb1, cb2, ou1, ou2, ou3, ou4, tradeV, oneab.1, oneab.2, q1]
                          exact endm G149.length G150.length _ _ va vb _ _ (by omega) (by omega) ((sm150.trans (Same.of_prefix gp151)).trans (q3.mono (fun j _ e => by omega))) q2 (r1.keep q3 (fun j hj e => by omega)) (r2.keep q3 (fun j hj e => by omega)) (by rw [sortB_len]; simp only [List.length_append]; omega) (by rw [sortB_len]; simp only [List.length_append]; omega) (by simp [upF, Fr.get, Up.refl])
                        · try simp (maxSteps := 1000000) [go_sem, hia5, hib5, ca0, ca1, ca2, cb1, cb2, ou1, ou2, ou3, ou4]
                          refine l04Made_ok (OL.read8 gt149_2 la1 lb1) (OL.read8 gl149 la2 lb2) (by simp only [List.length_append]; omega) (by simp only [List.length_append]; omega) _ ?_
                          intro G152 va vb gp152 hab
                          have gle152 := gp152.length_le
                          have oneab : va.oneCell' = true /\ vb.oneCell' = true := ⟨hab.read.1.one, hab.read.2.one⟩
                          obtain ⟨r1, r2⟩ := hab.rin
                          have gpx : G152 <+: G152 ++ [(⟨[.int .i64 ra.p, va, vb], true, true⟩ : Blk)] := List.prefix_append _ _
                          try simp (maxSteps := 1000000) [go_sem, hia5, hib5, ca0, ca1, ca2, cb1, cb2, ou1, ou2, ou3, ou4, tradeV, oneab.1, oneab.2]
                          refine andK_intro (fun i hi => List.getElem?_append_left (by have hi : i < H5.length := hi; omega)) ?_
                          try simp (maxSteps := 1000000) [go_sem, hia5, hib5, ca0, ca1, ca2, cb1, cb2, ou1, ou2, ou3, ou4, oneab.1, oneab.2]
                          exact endm G152.length G149.length _ _ va vb _ _ (by omega) (by omega) ((sm149.trans (Same.of_prefix gp152)).trans (Same.of_prefix gpx)) (by simp) (r1.keep (S := fun _ => False) (Same.of_prefix gpx) (fun _ _ e => e)) (r2.keep (S := fun _ => False) (Same.of_prefix gpx) (fun _ _ e => e)) (by rw [sortB_len]; simp only [List.length_append]; omega) (by rw [sortB_len]; simp only [List.length_append]; omega) (by simp [upF, Fr.get, Up.refl])
    rintro ⟨t6, p6, va, vb, oo, ii⟩ H6 ⟨hs6, ht6, hu6, hw6, lo6, li6, hlt6⟩
    simp only at ht6 hu6 hw6 lo6 li6 hlt6
    have hp56 : H5 <+: H6 := hs6.prefix (fun j hj e => by have e : H5.length <= j := e; omega)
    have c6 := (trb_cells ht6).1
    have o61 := hu6.one
    have o62 := hw6.one
    simp (maxSteps := 1000000) [go_sem, c6, o61, o62]
    refine l04Is_ok hu6.read hw6.read (by omega) (by omega) _ ?_
    intro H7 hp7
    have hp57 := hp56.trans hp7
    have hle57 := hp57.length_le
    have hle45 := hs5.1
    have hST := hS5.pre hp57
    have hxT := Same.get (S := fun _ => False) (Same.of_prefix hp57) (hs5.get hx4 (by omega)) (fun e => e)
    have hbT := (hxs4.keep hs5 (fun j hj e => by omega)).pre hp57
    have hrT := Same.get (S := fun _ => False) (Same.of_prefix hp57) (hs5.get hr4 (by omega)) (fun e => e)
    have hsmT := (hsm4.trans hs5).trans (Same.of_prefix hp57)
    obtain ⟨tb, htb⟩ : ∃ b, tradeB p6 oo ii = b := ⟨_, rfl⟩
    rw [htb]
    cases tb
    rotate_left
    · have ht7 := pget hp7 ht6
      have c7 := (trb_cells ht7).1
      obtain ⟨HZ, q1, q2, q3⟩ := fin H7 p6 va vb oo ii hsmT hST hrT ((hu6.keep (S := fun _ => False) (Same.of_prefix hp7) (fun _ _ e => e)).wider (by omega)) ((hw6.keep (S := fun _ => False) (Same.of_prefix hp7) (fun _ _ e => e)).wider (by omega)) (by omega) (by omega)
      simp (maxSteps := 1000000) [go_sem, c7, o61, o62, q1, q2]
      exact ⟨_, Up.refl _ _, q3⟩
    simp (maxSteps := 1000000) [go_sem]
    have hleT : H1.length <= H7.length := by omega
    generalize H7 = HT at *
  case' inr.inr.inl.inr =>
    have hn' : ¬ ((1 : Int) < rows.length) := by omega
    simp (maxSteps := 1000000) [go_sem, hn']
    have hST := hS4
    have hxT := hx4
    have hbT := hxs4
    have hrT := hr4
    have hsmT := hsm4
    have hleT : H1.length <= H4.length := by omega
    generalize H4 = HT at *
  case' inr.inr.inr =>
    have f2 : (k == 2) = false := by simpa using c2
    rcases Decidable.em (k = 3) with c3 | c3
  case' inr.inr.inr.inl =>
    subst c3
    have hpe : H4 <+: H4 ++ [(⟨[], true, true⟩ : Blk), ⟨[], true, true⟩] := List.prefix_append _ _
    obtain ⟨HZ, q1, q2, q3⟩ := fin0 (H4 ++ [(⟨[], true, true⟩ : Blk), ⟨[], true, true⟩]) p H4.length (H4.length + 1) (hsm4.trans (Same.of_prefix hpe)) (hS4.pre hpe) (pget hpe hr4)
    simp (maxSteps := 1000000) [go_sem, b1, q1, q2]
    exact q3
  case' inr.inr.inr.inr =>
    have f3 : (k == 3) = false := by simpa using c3
    simp (maxSteps := 1000000) [go_sem, f0, f1, f2, f3]
    have hST := hS4
    have hxT := hx4
    have hbT := hxs4
    have hrT := hr4
    have hsmT := hsm4
    have hleT : H1.length <= H4.length := by omega
    generalize H4 = HT at *
  all_goals
    have bT := (sys_cells hxT onex).2.1
    simp (maxSteps := 1000000) [go_sem, bT]
    refine AWp.loopVc (St := Nat) (fun q => [(0, .pointer (some ⟨s, 0, none⟩)), (2, .pointer (some ⟨H.length, 0, none⟩)), (3, .pointer (some ⟨H1.length, 0, none⟩)), (12, .int .i64 p), (13, .int .i64 q)])
      (fun q H' => q <= 20 /\ Same (fun j => j = s) H H' /\ Src L s H' /\ H'[H1.length]? = some ⟨[.int .i64 p, x], true, true⟩ /\ BIn H0.length H' x bs /\ H'[H.length]? = some ⟨[.int .i64 0, .slice none 0 0, .slice none 0 0], true, true⟩ /\ H1.length < H'.length) (fun q => 20 - q) 0 ?_ ?_ ?_
    · simp [upF, Fr.get, Up.refl]
    · exact ⟨by simp, hsmT, hST, hxT, hbT, hrT, (List.getElem?_eq_some_iff.1 hxT).1⟩
    clear hsmT hST hxT hbT hrT hleT bT
    rintro K q HL ⟨hq, hsmL, hSL, hxL, hbL, hrL, hleL⟩ hK
    have endt : ∀ (a b : Nat), ∃ HZ, storeAt (HL ++ [(⟨[], true, true⟩ : Blk), ⟨[], true, true⟩]) H.length 0 [.int .i64 p, .slice (some ⟨a, 0, none⟩) 0 0, .slice (some ⟨b, 0, none⟩) 0 0] = some HZ /\ cellsAt HZ H.length 0 3 = some [.int .i64 p, .slice (some ⟨a, 0, none⟩) 0 0, .slice (some ⟨b, 0, none⟩) 0 0] /\
        ∃ v', Up HZ (.agg #[.int .i64 p, .slice (some ⟨a, 0, none⟩) 0 0, .slice (some ⟨b, 0, none⟩) 0 0]) v' /\ Post v' HZ := fun a b => by
      have hpe : HL <+: HL ++ [(⟨[], true, true⟩ : Blk), ⟨[], true, true⟩] := List.prefix_append _ _
      exact fin0 _ p a b (hsmL.trans (Same.of_prefix hpe)) (hSL.pre hpe) (pget hpe hrL)
    rcases Nat.lt_or_ge q 20 with hq20 | hq20
    rotate_left
    · have hq20' : ¬ ((q : Int) < 20) := by omega
      obtain ⟨HZ, z1, z2, z3⟩ := endt HL.length (HL.length + 1)
      simp (maxSteps := 1000000) [go_sem, undef, hq20', z1, z2]
      exact z3
    have hq20' : (q : Int) < 20 := by omega
    by_cases h3 : (3 : Int) < p
    · have hw_q : IntKind.i64.wrap ((q : Int) + 1) = (q : Int) + 1 := i64w (by omega) (by omega)
      simp (maxSteps := 1000000) [go_sem, undef, hq20', h3]
      refine AWp.regCut (St := Nat × Int × Int × Value × Value × List Bk × List Bk) (fun z => [(14, .pointer (some ⟨z.1, 0, none⟩)), (15, .int .i64 z.2.2.1)])
        (fun z H' => Same (fun j => j = s) HL H' /\ Src L s H' /\ H'[z.1]? = some ⟨[.int .i64 z.2.1, z.2.2.2.1, z.2.2.2.2.1], true, true⟩ /\ RIn HL.length H' z.2.2.2.1 z.2.2.2.2.2.1 /\ RIn HL.length H' z.2.2.2.2.1 z.2.2.2.2.2.2 /\ z.2.2.2.2.2.1.length <= 100 /\ z.2.2.2.2.2.2.length <= 100) ?_ ?_
      rotate_left
      · rintro ⟨z, r, ec, va, vb, oo, ii⟩ HA ⟨hsA, hSA, hbA, hu, hw, ho, hi⟩
        simp only at hbA hu hw ho hi
        rcases Decidable.em (ec = 0) with ce | ce
        · subst ce
          have c9 := (trb_cells hbA).1
          obtain ⟨HZ, q1, q2, q3⟩ := fin HA r va vb oo ii (hsmL.trans hsA) hSA (hsA.get hrL (by omega)) (hu.wider (by omega)) (hw.wider (by omega)) (by omega) (by omega)
          simp (maxSteps := 1000000) [go_sem, undef, c9, hu.one, hw.one, q1, q2]
          exact ⟨_, Up.refl _ _, q3⟩
        · have fe : (ec == 0) = false := by simpa using ce
          simp (maxSteps := 1000000) [go_sem, undef, fe, hw_q]
          exact hK (q + 1) _ _ (by omega) (by simp [upF, Fr.get, Up.refl]) ⟨hq20, hsmL.trans hsA, hSA, hsA.get hxL (by omega), hbL.keep hsA (fun j hj e => by omega), hsA.get hrL (by omega), by have := hsA.1; omega⟩
      intro Q' hQ'
      obtain ⟨xL0, xL1, xL2, xL3⟩ := sys_cells hxL onex
      refine AWp.drawFS (fun i => i = H1.length) mixed [14] [(0, false), (1, false), (2, false), (4, false), (5, false), (7, false), (8, false), (3, true), (6, true), (9, true), (10, false), (11, false), (12, false), (13, false), (14, true), (15, false), (16, false)] (.one 0 false (.one 1 false (.one 2 false (.one 4 false (.one 5 false (.one 7 false (.one 8 false (.two 3 true (.two 6 true (.two 9 true (.two 10 false (.one 11 false (.one 12 false (.one 13 false (.one 14 true (.one 15 false (.one 16 false .nil)))))) 14 (.one 10 false (.one 11 false (.one 12 false (.one 13 false (.one 15 false (.one 16 false .nil))))))) 14 (.one 9 true (.one 10 false (.one 11 false (.one 12 false (.one 13 false (.one 15 false (.one 16 false .nil)))))))) 14 (.one 6 true (.one 9 true (.one 10 false (.one 11 false (.one 12 false (.one 13 false (.one 15 false (.one 16 false .nil))))))))) 14 (.one 3 true (.one 6 true (.one 9 true (.one 10 false (.one 11 false (.one 12 false (.one 13 false (.one 15 false (.one 16 false .nil))))))))))))))))) (by kernel_rfl) ?_
      simp (maxSteps := 1000000) [go_sem, xL0]
      refine vTS_two ?_ ?_
      · try simp (maxSteps := 1000000) [go_sem]
        refine next_ok hSL _ ?_
        intro G1 y1 gs1 gl1 gS1 _ _
        have gk1 : KeepS (fun i => i = H1.length) HL G1 := fun i hi => gs1.2 i (by have := (Nat.le_refl HL.length); omega) (by omega)
        try simp (maxSteps := 1000000) [go_sem]
        try refine andK_intro gk1 ?_
        have gle1 : HL.length <= G1.length := Nat.le_trans ((Nat.le_refl HL.length)) gs1.1
        refine vTS_two ?_ ?_
        · try simp (maxSteps := 1000000) [go_sem]
          refine next_ok gS1 _ ?_
          intro G2 y2 gs2 gl2 gS2 _ _
          have gk2 : KeepS (fun i => i = H1.length) G1 G2 := fun i hi => gs2.2 i (by have := gle1; omega) (by omega)
          try simp (maxSteps := 1000000) [go_sem]
          try refine andK_intro gk2 ?_
          have gle2 : HL.length <= G2.length := Nat.le_trans (gle1) gs2.1
          refine vTS_two ?_ ?_
          · try simp (maxSteps := 1000000) [go_sem]
            refine next_ok gS2 _ ?_
            intro G3 y3 gs3 gl3 gS3 _ _
            have gk3 : KeepS (fun i => i = H1.length) G2 G3 := fun i hi => gs3.2 i (by have := gle2; omega) (by omega)
            try simp (maxSteps := 1000000) [go_sem]
            try refine andK_intro gk3 ?_
            have gle3 : HL.length <= G3.length := Nat.le_trans (gle2) gs3.1
            refine vTS_two ?_ ?_
            · try simp (maxSteps := 1000000) [go_sem]
              refine cycle_ok (hbL.keep ((((Same.refl (fun j => j = s) HL).trans gs1).trans gs2).trans gs3) (fun j hj e => by omega)).read (by omega) _ ?_
              intro G4 va vb r ec oo ii gp4 hab ho hi
              have gle4 := gp4.length_le
              have oneab : va.oneCell' = true /\ vb.oneCell' = true := ⟨hab.read.1.one, hab.read.2.one⟩
              obtain ⟨r1, r2⟩ := hab.rin
              simp (maxSteps := 1000000) [go_sem, tradeV, oneab.1, oneab.2]
              have hL0 := gle3
              have gpx : G4 <+: G4 ++ [(⟨[.int .i64 r, va, vb], true, true⟩ : Blk)] := List.prefix_append _ _
              try refine andK_intro (fun i hi => List.getElem?_append_left (by have := gle3; omega)) ?_
              try simp (maxSteps := 1000000) [go_sem, oneab.1, oneab.2]
              refine hQ' (G4.length, r, ec, va, vb, oo, ii) _ _ ?_ ⟨(((((Same.refl (fun j => j = s) HL).trans gs1).trans gs2).trans gs3).trans (Same.of_prefix gp4)).trans (Same.of_prefix gpx), (gS3.pre gp4).pre gpx, by simp, (r1.keep (S := fun _ => False) (Same.of_prefix gpx) (fun _ _ e => e)).wider (by omega), (r2.keep (S := fun _ => False) (Same.of_prefix gpx) (fun _ _ e => e)).wider (by omega), ho, hi⟩
              simp [upF, Fr.get, Up.refl]
            · try simp (maxSteps := 1000000) [go_sem]
              have gp5 : G3 <+: G3 ++ [(⟨[.int .i64 0, .slice none 0 0, .slice none 0 0], true, true⟩ : Blk)] := List.prefix_append _ _
              have gb5 : (G3 ++ [(⟨[.int .i64 0, .slice none 0 0, .slice none 0 0], true, true⟩ : Blk)])[G3.length]? = some ⟨[.int .i64 0, .slice none 0 0, .slice none 0 0], true, true⟩ := by simp
              have gk5 : KeepS (fun i => i = H1.length) G3 (G3 ++ [(⟨[.int .i64 0, .slice none 0 0, .slice none 0 0], true, true⟩ : Blk)]) := fun i hi => List.getElem?_append_left (by have := gle3; omega)
              generalize G3 ++ [(⟨[.int .i64 0, .slice none 0 0, .slice none 0 0], true, true⟩ : Blk)] = G5 at gp5 gb5 gk5 ⊢
              try refine andK_intro gk5 ?_
              have gle5 : HL.length <= G5.length := Nat.le_trans (gle3) gp5.length_le
              have gid5 := gle3
              try simp (maxSteps := 1000000) [go_sem]
              refine cycle_ok (hbL.keep (((((Same.refl (fun j => j = s) HL).trans gs1).trans gs2).trans gs3).trans (Same.of_prefix gp5)) (fun j hj e => by omega)).read (by omega) _ ?_
              intro G6 va vb r ec oo ii gp6 hab ho hi
              have gle6 := gp6.length_le
              have oneab : va.oneCell' = true /\ vb.oneCell' = true := ⟨hab.read.1.one, hab.read.2.one⟩
              obtain ⟨r1, r2⟩ := hab.rin
              have gbx := pget gp6 gb5
              obtain ⟨_, _, _, _, g⟩ := trb_cells gbx
              obtain ⟨q1, q2, q3⟩ := g r va vb oneab.1 oneab.2
              simp (maxSteps := 1000000) [go_sem, tradeV, oneab.1, oneab.2, q1]
              have hlb := (List.getElem?_eq_some_iff.1 gb5).1
              have hL0 := gle5
              refine hQ' (G3.length, r, ec, va, vb, oo, ii) _ _ ?_ ⟨sameUp ((((((Same.refl (fun j => j = s) HL).trans gs1).trans gs2).trans gs3).trans (Same.of_prefix gp5)).trans (Same.of_prefix gp6)) q3 (fun j e => by omega), ((gS3.pre gp5).pre gp6).keep q3 (fun j e => ⟨by omega, by omega⟩), q2, (r1.keep q3 (fun j hj e => by omega)).wider (by omega), (r2.keep q3 (fun j hj e => by omega)).wider (by omega), ho, hi⟩
              simp [upF, Fr.get, Up.refl]
          · try simp (maxSteps := 1000000) [go_sem]
            have gp7 : G2 <+: G2 ++ [(⟨[.int .i64 0, .slice none 0 0, .slice none 0 0], true, true⟩ : Blk)] := List.prefix_append _ _
            have gb7 : (G2 ++ [(⟨[.int .i64 0, .slice none 0 0, .slice none 0 0], true, true⟩ : Blk)])[G2.length]? = some ⟨[.int .i64 0, .slice none 0 0, .slice none 0 0], true, true⟩ := by simp
            have gk7 : KeepS (fun i => i = H1.length) G2 (G2 ++ [(⟨[.int .i64 0, .slice none 0 0, .slice none 0 0], true, true⟩ : Blk)]) := fun i hi => List.getElem?_append_left (by have := gle2; omega)
            generalize G2 ++ [(⟨[.int .i64 0, .slice none 0 0, .slice none 0 0], true, true⟩ : Blk)] = G7 at gp7 gb7 gk7 ⊢
            try refine andK_intro gk7 ?_
            have gle7 : HL.length <= G7.length := Nat.le_trans (gle2) gp7.length_le
            have gid7 := gle2
            try simp (maxSteps := 1000000) [go_sem]
            refine next_ok (gS2.pre gp7) _ ?_
            intro G8 y8 gs8 gl8 gS8 _ _
            have gk8 : KeepS (fun i => i = H1.length) G7 G8 := fun i hi => gs8.2 i (by have := gle7; omega) (by omega)
            try simp (maxSteps := 1000000) [go_sem]
            try refine andK_intro gk8 ?_
            have gle8 : HL.length <= G8.length := Nat.le_trans (gle7) gs8.1
            have gb8 := gs8.get gb7 (by have := hleL; omega)
            try simp (maxSteps := 1000000) [go_sem]
            refine cycle_ok (hbL.keep (((((Same.refl (fun j => j = s) HL).trans gs1).trans gs2).trans (Same.of_prefix gp7)).trans gs8) (fun j hj e => by omega)).read (by omega) _ ?_
            intro G9 va vb r ec oo ii gp9 hab ho hi
            have gle9 := gp9.length_le
            have oneab : va.oneCell' = true /\ vb.oneCell' = true := ⟨hab.read.1.one, hab.read.2.one⟩
            obtain ⟨r1, r2⟩ := hab.rin
            have gbx := pget gp9 gb8
            obtain ⟨_, _, _, _, g⟩ := trb_cells gbx
            obtain ⟨q1, q2, q3⟩ := g r va vb oneab.1 oneab.2
            simp (maxSteps := 1000000) [go_sem, tradeV, oneab.1, oneab.2, q1]
            have hlb := (List.getElem?_eq_some_iff.1 gb8).1
            have hL0 := gle8
            refine hQ' (G2.length, r, ec, va, vb, oo, ii) _ _ ?_ ⟨sameUp ((((((Same.refl (fun j => j = s) HL).trans gs1).trans gs2).trans (Same.of_prefix gp7)).trans gs8).trans (Same.of_prefix gp9)) q3 (fun j e => by omega), (gS8.pre gp9).keep q3 (fun j e => ⟨by omega, by omega⟩), q2, (r1.keep q3 (fun j hj e => by omega)).wider (by omega), (r2.keep q3 (fun j hj e => by omega)).wider (by omega), ho, hi⟩
            simp [upF, Fr.get, Up.refl]
        · try simp (maxSteps := 1000000) [go_sem]
          have gp10 : G1 <+: G1 ++ [(⟨[.int .i64 0, .slice none 0 0, .slice none 0 0], true, true⟩ : Blk)] := List.prefix_append _ _
          have gb10 : (G1 ++ [(⟨[.int .i64 0, .slice none 0 0, .slice none 0 0], true, true⟩ : Blk)])[G1.length]? = some ⟨[.int .i64 0, .slice none 0 0, .slice none 0 0], true, true⟩ := by simp
          have gk10 : KeepS (fun i => i = H1.length) G1 (G1 ++ [(⟨[.int .i64 0, .slice none 0 0, .slice none 0 0], true, true⟩ : Blk)]) := fun i hi => List.getElem?_append_left (by have := gle1; omega)
          generalize G1 ++ [(⟨[.int .i64 0, .slice none 0 0, .slice none 0 0], true, true⟩ : Blk)] = G10 at gp10 gb10 gk10 ⊢
          try refine andK_intro gk10 ?_
          have gle10 : HL.length <= G10.length := Nat.le_trans (gle1) gp10.length_le
          have gid10 := gle1
          try simp (maxSteps := 1000000) [go_sem]
          refine next_ok (gS1.pre gp10) _ ?_
          intro G11 y11 gs11 gl11 gS11 _ _
          have gk11 : KeepS (fun i => i = H1.length) G10 G11 := fun i hi => gs11.2 i (by have := gle10; omega) (by omega)
          try simp (maxSteps := 1000000) [go_sem]
          try refine andK_intro gk11 ?_
          have gle11 : HL.length <= G11.length := Nat.le_trans (gle10) gs11.1
          have gb11 := gs11.get gb10 (by have := hleL; omega)
          try simp (maxSteps := 1000000) [go_sem]
          refine next_ok gS11 _ ?_
          intro G12 y12 gs12 gl12 gS12 _ _
          have gk12 : KeepS (fun i => i = H1.length) G11 G12 := fun i hi => gs12.2 i (by have := gle11; omega) (by omega)
          try simp (maxSteps := 1000000) [go_sem]
          try refine andK_intro gk12 ?_
          have gle12 : HL.length <= G12.length := Nat.le_trans (gle11) gs12.1
          have gb12 := gs12.get gb11 (by have := hleL; omega)
          try simp (maxSteps := 1000000) [go_sem]
          refine cycle_ok (hbL.keep (((((Same.refl (fun j => j = s) HL).trans gs1).trans (Same.of_prefix gp10)).trans gs11).trans gs12) (fun j hj e => by omega)).read (by omega) _ ?_
          intro G13 va vb r ec oo ii gp13 hab ho hi
          have gle13 := gp13.length_le
          have oneab : va.oneCell' = true /\ vb.oneCell' = true := ⟨hab.read.1.one, hab.read.2.one⟩
          obtain ⟨r1, r2⟩ := hab.rin
          have gbx := pget gp13 gb12
          obtain ⟨_, _, _, _, g⟩ := trb_cells gbx
          obtain ⟨q1, q2, q3⟩ := g r va vb oneab.1 oneab.2
          simp (maxSteps := 1000000) [go_sem, tradeV, oneab.1, oneab.2, q1]
          have hlb := (List.getElem?_eq_some_iff.1 gb12).1
          have hL0 := gle12
          refine hQ' (G1.length, r, ec, va, vb, oo, ii) _ _ ?_ ⟨sameUp ((((((Same.refl (fun j => j = s) HL).trans gs1).trans (Same.of_prefix gp10)).trans gs11).trans gs12).trans (Same.of_prefix gp13)) q3 (fun j e => by omega), (gS12.pre gp13).keep q3 (fun j e => ⟨by omega, by omega⟩), q2, (r1.keep q3 (fun j hj e => by omega)).wider (by omega), (r2.keep q3 (fun j hj e => by omega)).wider (by omega), ho, hi⟩
          simp [upF, Fr.get, Up.refl]
      · try simp (maxSteps := 1000000) [go_sem]
        have gp14 : HL <+: HL ++ [(⟨[.int .i64 0, .slice none 0 0, .slice none 0 0], true, true⟩ : Blk)] := List.prefix_append _ _
        have gb14 : (HL ++ [(⟨[.int .i64 0, .slice none 0 0, .slice none 0 0], true, true⟩ : Blk)])[HL.length]? = some ⟨[.int .i64 0, .slice none 0 0, .slice none 0 0], true, true⟩ := by simp
        have gk14 : KeepS (fun i => i = H1.length) HL (HL ++ [(⟨[.int .i64 0, .slice none 0 0, .slice none 0 0], true, true⟩ : Blk)]) := fun i hi => List.getElem?_append_left (by have := (Nat.le_refl HL.length); omega)
        generalize HL ++ [(⟨[.int .i64 0, .slice none 0 0, .slice none 0 0], true, true⟩ : Blk)] = G14 at gp14 gb14 gk14 ⊢
        try refine andK_intro gk14 ?_
        have gle14 : HL.length <= G14.length := Nat.le_trans ((Nat.le_refl HL.length)) gp14.length_le
        have gid14 := (Nat.le_refl HL.length)
        try simp (maxSteps := 1000000) [go_sem]
        refine next_ok (hSL.pre gp14) _ ?_
        intro G15 y15 gs15 gl15 gS15 _ _
        have gk15 : KeepS (fun i => i = H1.length) G14 G15 := fun i hi => gs15.2 i (by have := gle14; omega) (by omega)
        try simp (maxSteps := 1000000) [go_sem]
        try refine andK_intro gk15 ?_
        have gle15 : HL.length <= G15.length := Nat.le_trans (gle14) gs15.1
        have gb15 := gs15.get gb14 (by have := hleL; omega)
        try simp (maxSteps := 1000000) [go_sem]
        refine next_ok gS15 _ ?_
        intro G16 y16 gs16 gl16 gS16 _ _
        have gk16 : KeepS (fun i => i = H1.length) G15 G16 := fun i hi => gs16.2 i (by have := gle15; omega) (by omega)
        try simp (maxSteps := 1000000) [go_sem]
        try refine andK_intro gk16 ?_
        have gle16 : HL.length <= G16.length := Nat.le_trans (gle15) gs16.1
        have gb16 := gs16.get gb15 (by have := hleL; omega)
        try simp (maxSteps := 1000000) [go_sem]
        refine next_ok gS16 _ ?_
        intro G17 y17 gs17 gl17 gS17 _ _
        have gk17 : KeepS (fun i => i = H1.length) G16 G17 := fun i hi => gs17.2 i (by have := gle16; omega) (by omega)
        try simp (maxSteps := 1000000) [go_sem]
        try refine andK_intro gk17 ?_
        have gle17 : HL.length <= G17.length := Nat.le_trans (gle16) gs17.1
        have gb17 := gs17.get gb16 (by have := hleL; omega)
        try simp (maxSteps := 1000000) [go_sem]
        refine cycle_ok (hbL.keep (((((Same.refl (fun j => j = s) HL).trans (Same.of_prefix gp14)).trans gs15).trans gs16).trans gs17) (fun j hj e => by omega)).read (by omega) _ ?_
        intro G18 va vb r ec oo ii gp18 hab ho hi
        have gle18 := gp18.length_le
        have oneab : va.oneCell' = true /\ vb.oneCell' = true := ⟨hab.read.1.one, hab.read.2.one⟩
        obtain ⟨r1, r2⟩ := hab.rin
        have gbx := pget gp18 gb17
        obtain ⟨_, _, _, _, g⟩ := trb_cells gbx
        obtain ⟨q1, q2, q3⟩ := g r va vb oneab.1 oneab.2
        simp (maxSteps := 1000000) [go_sem, tradeV, oneab.1, oneab.2, q1]
        have hlb := (List.getElem?_eq_some_iff.1 gb17).1
        have hL0 := gle17
        refine hQ' (HL.length, r, ec, va, vb, oo, ii) _ _ ?_ ⟨sameUp ((((((Same.refl (fun j => j = s) HL).trans (Same.of_prefix gp14)).trans gs15).trans gs16).trans gs17).trans (Same.of_prefix gp18)) q3 (fun j e => by omega), (gS17.pre gp18).keep q3 (fun j e => ⟨by omega, by omega⟩), q2, (r1.keep q3 (fun j hj e => by omega)).wider (by omega), (r2.keep q3 (fun j hj e => by omega)).wider (by omega), ho, hi⟩
        simp [upF, Fr.get, Up.refl]
    · obtain ⟨HZ, z1, z2, z3⟩ := endt HL.length (HL.length + 1)
      simp (maxSteps := 1000000) [go_sem, undef, hq20', h3, z1, z2]
      exact z3

end Go.Proofs.YtkimaohcmcfcnaaGreat
end
