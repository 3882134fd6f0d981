/- Part 13 of what the proof of the law FnBlocks rests on: contracts of functions of the program, for every argument that each names; no statement of the seat is proved here. -/
import Derived.Test.YtfnegaedkomcgaaGreatFnBlocksPart12

set_option linter.all false
set_option maxRecDepth 20000
set_option maxHeartbeats 8000000
section
namespace Go.Proofs.YtfnegaedkomcgaaGreat
open Go.Ab

structure Wild (p : Int) (bs : List Bk) : Prop where
  pts : In64 p
  len : bs.length <= 300
  nums : ∀ b ∈ bs, In64 b.a /\ In64 b.b /\ In64 b.c
theorem Drawn.wild {p : Int} {bs : List Bk} (h : Drawn p bs) : Wild p bs := by
  have hp := h.pts
  refine ⟨by unfold In64; omega, by have := h.len; omega, fun b hb => ?_⟩
  have := good_iff.1 (h.good b hb)
  unfold In64
  omega
theorem oe_bin {lo : Nat} {H : Heap} {v : Value} {bs : List Bk} (h : OE 3 lo H v (tri bs) bs.length) (hl : bs.length <= 140737488355328) : ∃ w, Up H v w /\ BIn lo H w bs := by
  obtain ⟨w, h1, h2⟩ := h.blocks hl
  exact ⟨w, h1, _, h2⟩

theorem bad_ok {L s : Nat} {H : Heap} (hs : Src L s H) {p lo : Nat} {u : Value} {bs : List Bk} (hu : BIn lo H u bs) (hsl : s < lo) (hlo : lo <= H.length) (hd : Drawn p bs) (Post : Value -> Heap -> Prop)
    (h : ∀ (H' : Heap) (q : Int) (w : Value) (cs : List Bk), Same (fun j => j = s) H H' -> Src L s H' -> BIn lo H' w cs -> Wild q cs -> Post (sysV q w) H') :
    ACalls Tryz.prog 70 [.pointer (some ⟨s, 0, none⟩), sysV p u] H Post := by
  have hslt := hs.lt
  have oneu := hu.one
  have hpp := hd.pts
  have hlb := hd.len
  obtain ⟨ui, ueq⟩ : ∃ i, u = lv 3 i 0 bs.length := by obtain ⟨_, id, ⟨e, _, _⟩, _⟩ := hu; exact ⟨id, e⟩
  subst ueq
  have uat : At H ui 0 (tri bs) := by
    obtain ⟨j, o, e, ha, _⟩ := hu.read
    simp at e
    obtain ⟨rfl, rfl⟩ := e
    exact ha
  refine ACalls.res ?_
  refine acalls_vc (rs := [.cell 4 26]) Tryz.func70 rfl rfl Tryz.ntmps70 rfl rfl ?_
  simp (maxSteps := 1000000) [go_sem, sysV]
  have hp0 : H <+: H ++ [⟨[.int .i64 p, lv 3 ui 0 bs.length], true, true⟩, ⟨[.int .i64 0, .slice none 0 0], true, true⟩, ⟨[], true, true⟩] := List.prefix_append _ _
  have hx0 : (H ++ [(⟨[.int .i64 p, lv 3 ui 0 bs.length], true, true⟩ : Blk), ⟨[.int .i64 0, .slice none 0 0], true, true⟩, ⟨[], true, true⟩])[H.length]? = some ⟨[.int .i64 p, lv 3 ui 0 bs.length], true, true⟩ := by simp
  have hr0 : (H ++ [(⟨[.int .i64 p, lv 3 ui 0 bs.length], true, true⟩ : Blk), ⟨[.int .i64 0, .slice none 0 0], true, true⟩, ⟨[], true, true⟩])[H.length + 1]? = some ⟨[.int .i64 0, .slice none 0 0], true, true⟩ := by simp
  have he0 : (H ++ [(⟨[.int .i64 p, lv 3 ui 0 bs.length], true, true⟩ : Blk), ⟨[.int .i64 0, .slice none 0 0], true, true⟩, ⟨[], true, true⟩])[H.length + 2]? = some ⟨[], true, true⟩ := by simp
  have hl0 : (H ++ [(⟨[.int .i64 p, lv 3 ui 0 bs.length], true, true⟩ : Blk), ⟨[.int .i64 0, .slice none 0 0], true, true⟩, ⟨[], true, true⟩]).length = H.length + 3 := by simp
  generalize H ++ [(⟨[.int .i64 p, lv 3 ui 0 bs.length], true, true⟩ : Blk), ⟨[.int .i64 0, .slice none 0 0], true, true⟩, ⟨[], true, true⟩] = H0 at hp0 hx0 hr0 he0 hl0 ⊢
  obtain ⟨a0, a1, a2, a3⟩ := sys_cells hx0 oneu
  have hsrc := tri_src (uat.pre hp0)
  simp only [srcCells, List.length_eq_zero_iff] at hsrc
  obtain ⟨v1, H1, hap1, hv1, hp1⟩ := emptyAppend (L := H.length + 2) (e := 3) (m := bs.length) (news := tri bs) (Nat.le_refl _) he0 (by omega) (by rw [tri_length])
  obtain ⟨sl1, rfl⟩ := hv1.shape
  simp (maxSteps := 1000000) [go_sem, sysV, a2, hsrc, hap1]
  refine andK_intro (by omega) ?_
  have hle1 := hp1.length_le
  have hx1 := pget hp1 hx0
  have hr1 := pget hp1 hr0
  refine next_ok (hs.pre (hp0.trans hp1)) _ ?_
  intro H2 q hs2 hl2 hS2 hq0 hq1
  have hsm2 : Same (fun j => j = s) H H2 := (Same.of_prefix (hp0.trans hp1)).trans hs2
  have hx2 := hs2.get hx1 (by omega)
  have hr2 := hs2.get hr1 (by omega)
  have hv2 := hv1.keep hs2 (fun j hj e => by omega)
  have hsL := hs.1
  have fin : ∀ (H3 : Heap) (x : Int) (v : Value) (cs : List Bk), Same (fun j => j = s) H H3 -> Src L s H3 -> H3[H.length + 1]? = some ⟨[.int .i64 0, .slice none 0 0], true, true⟩ -> OE 3 (H.length + 2) H3 v (tri cs) cs.length -> Wild x cs ->
      storeAt H3 (H.length + 1) 0 [.int .i64 x, v] = some (H3.set (H.length + 1) ⟨[.int .i64 x, v], true, true⟩) /\ cellsAt (H3.set (H.length + 1) ⟨[.int .i64 x, v], true, true⟩) (H.length + 1) 0 2 = some [.int .i64 x, v] /\
        ∃ v', Up (H3.set (H.length + 1) ⟨[.int .i64 x, v], true, true⟩) (.agg #[.int .i64 x, v]) v' /\ Post v' (H3.set (H.length + 1) ⟨[.int .i64 x, v], true, true⟩) := by
    intro H3 x v cs e1 e2 e3 e4 e5
    obtain ⟨r0, r1, r2, r3⟩ := sys_cells e3 rfl
    have hs4 : Same (fun j => j = H.length + 1) H3 (H3.set (H.length + 1) ⟨[.int .i64 x, v], true, true⟩) := same_set2
    have hr4 : (H3.set (H.length + 1) ⟨[.int .i64 x, v], true, true⟩)[H.length + 1]? = some ⟨[.int .i64 x, v], true, true⟩ := List.getElem?_set_self (List.getElem?_eq_some_iff.1 e3).1
    obtain ⟨w, hup, hw⟩ := oe_bin (e4.keep hs4 (fun j hj e => by omega)) (by have := e5.len; omega)
    exact ⟨r3 x v e4.one, (sys_cells hr4 e4.one).1, sysV x w, Up.agg ⟨Up.refl _ _, hup, trivial⟩, h _ x w cs (sameUp e1 hs4 (fun j e => by omega)) (e2.keep hs4 (fun j e => ⟨by omega, by omega⟩)) (hw.wider (by omega)) e5⟩
  have hwild := hd.wild
  by_cases c0 : q = 0
  · subst c0
    simp (maxSteps := 1000000) [go_sem]
    have hp3 : H2 <+: H2 ++ [⟨[.int .i64 2, .int .i64 16, .int .i64 0, .int .i64 (-1)], true, true⟩] := List.prefix_append _ _
    have hi3 : (H2 ++ [(⟨[.int .i64 2, .int .i64 16, .int .i64 0, .int .i64 (-1)], true, true⟩ : Blk)])[H2.length]? = some ⟨ints [2, 16, 0, -1], true, true⟩ := by simp [ints]
    generalize H2 ++ [(⟨[.int .i64 2, .int .i64 16, .int .i64 0, .int .i64 (-1)], true, true⟩ : Blk)] = H3 at hp3 hi3 ⊢
    refine pick_ok (hS2.pre hp3) (xs := [2, 16, 0, -1]) hi3 (by omega) (by simp) (by simp) _ ?_
    intro H4 x hs4 hl4 hS4 hx
    have hxr : In64 x := by simp at hx; unfold In64; omega
    obtain ⟨f1, f2, f3⟩ := fin H4 x _ bs ((hsm2.trans (Same.of_prefix hp3)).trans hs4) hS4 (hs4.get (pget hp3 hr2) (by omega)) ((hv2.pre hp3).keep hs4 (fun j hj e => by omega)) ⟨hxr, hwild.len, hwild.nums⟩
    simp (maxSteps := 1000000) [go_sem, f1, f2]
    exact f3
  · have b0 : (q == 0) = false := by simpa using c0
    by_cases c1 : q = 1
    · subst c1
      simp (maxSteps := 1000000) [go_sem]
      obtain ⟨a0, a1, a2, a3⟩ := sys_cells hx2 oneu
      have wp1 : IntKind.i64.wrap ((p : Int) - 1) = (p : Int) - 1 := i64w (by omega) (by omega)
      have last : ∀ (D H9 : Heap) (x y z : Int) (sl : Option Addr), Same (fun j => j = s) H2 D -> Src L s D -> KeepL (H.length + 2) D H9 -> D.length <= H9.length -> OE 3 (H.length + 2) H9 (.slice sl (bs.length + 1) (bs.length + 1)) (tri bs ++ [.int .i64 x, .int .i64 y, .int .i64 z]) (bs.length + 1) ->
          (0 <= x /\ (x < 3 \/ x = 0)) -> y ∈ [1, 2, (p : Int)] -> z ∈ [2, (p : Int), (p : Int) - 1] ->
          storeAt H9 (H.length + 1) 0 [.int .i64 p, .slice sl (bs.length + 1) (bs.length + 1)] = some (H9.set (H.length + 1) ⟨[.int .i64 p, .slice sl (bs.length + 1) (bs.length + 1)], true, true⟩) /\ cellsAt (H9.set (H.length + 1) ⟨[.int .i64 p, .slice sl (bs.length + 1) (bs.length + 1)], true, true⟩) (H.length + 1) 0 2 = some [.int .i64 p, .slice sl (bs.length + 1) (bs.length + 1)] /\
            (∃ v', Up (H9.set (H.length + 1) ⟨[.int .i64 p, .slice sl (bs.length + 1) (bs.length + 1)], true, true⟩) (.agg #[.int .i64 p, .slice sl (bs.length + 1) (bs.length + 1)]) v' /\ Post v' (H9.set (H.length + 1) ⟨[.int .i64 p, .slice sl (bs.length + 1) (bs.length + 1)], true, true⟩)) /\ cellsAt H9 H.length 0 1 = some [.int .i64 p] := by
        intro D H9 x y z sl e1 e2 e3 e4 e5 e6 e7 e8
        have hsD : Same (fun j => H.length + 2 <= j) D H9 := ⟨e4, fun j _ hS => e3 j (by omega)⟩
        have hxD := hsD.get (e1.get hx2 (by omega)) (by omega)
        have hrD := hsD.get (e1.get hr2 (by omega)) (by omega)
        have hc : tri bs ++ [.int .i64 x, .int .i64 y, .int .i64 z] = tri (bs ++ [⟨x, y, z⟩]) := by rw [tri_append]; rfl
        simp only [List.mem_cons, List.not_mem_nil, or_false] at e7 e8
        obtain ⟨f1, f2, f3⟩ := fin H9 p _ (bs ++ [⟨x, y, z⟩]) (sameUp (hsm2.trans e1) hsD (fun j e => by omega)) (e2.keep hsD (fun j e => ⟨by omega, by omega⟩)) hrD (by rw [hc] at e5; rw [List.length_append]; exact e5)
          ⟨hwild.pts, by simp; omega, fun b hb => by
            rcases List.mem_append.1 hb with hb | hb
            · exact hwild.nums b hb
            · simp at hb; subst hb; unfold In64; simp only; omega⟩
        exact ⟨f1, f2, f3, (sys_cells hxD oneu).2.1⟩
      refine AWp.drawGS (fun i => i ≠ s /\ i < H2.length) mixed [6, 14] [(0, false), (1, false), (3, false), (4, false), (5, false), (8, false), (9, false), (10, false), (11, false), (12, false), (13, false), (2, true), (6, true), (7, true), (14, true), (15, false), (16, false), (17, false), (18, false), (19, false)] (.one 0 false (.one 1 false (.one 3 false (.one 4 false (.one 5 false (.one 8 false (.one 9 false (.one 10 false (.one 11 false (.one 12 false (.one 13 false (.alt 6 (.alt 14 (.one 2 true (.one 7 true (.one 15 false (.one 16 false (.one 17 false (.one 18 false (.one 19 false .nil))))))) (.one 2 true (.alt 14 (.one 7 true (.one 15 false (.one 16 false (.one 17 false (.one 18 false (.one 19 false .nil)))))) (.one 7 true (.one 14 true (.one 15 false (.one 16 false (.one 17 false (.one 18 false (.one 19 false .nil)))))))))) (.alt 14 (.alt 6 (.one 2 true (.one 7 true (.one 15 false (.one 16 false (.one 17 false (.one 18 false (.one 19 false .nil))))))) (.one 2 true (.one 6 true (.one 7 true (.one 15 false (.one 16 false (.one 17 false (.one 18 false (.one 19 false .nil))))))))) (.one 2 true (.alt 14 (.one 6 true (.one 7 true (.one 15 false (.one 16 false (.one 17 false (.one 18 false (.one 19 false .nil))))))) (.one 6 true (.alt 14 (.one 7 true (.one 15 false (.one 16 false (.one 17 false (.one 18 false (.one 19 false .nil)))))) (.one 7 true (.one 14 true (.one 15 false (.one 16 false (.one 17 false (.one 18 false (.one 19 false .nil)))))))))))))))))))))))) (by kernel_rfl) ?_
      simp (maxSteps := 1000000) [go_sem, a0, a1, a2, wp1]
      have hl2' := (List.getElem?_eq_some_iff.1 hx2).1
      refine andK_intro ⟨by omega, hl2'⟩ (andK_intro ⟨by omega, hl2'⟩ (andK_intro ⟨by omega, hl2'⟩ ?_))
      refine vGS_alt ?_ ?_
      · have gp1 : H2 <+: H2 ++ [⟨[.int .i64 1, .int .i64 2, .int .i64 p], true, true⟩] := List.prefix_append _ _
        have gb6 : (H2 ++ [(⟨[.int .i64 1, .int .i64 2, .int .i64 p], true, true⟩ : Blk)])[H2.length]? = some ⟨ints [1, 2, (p : Int)], true, true⟩ := by simp [ints]
        have gn6 : H2.length ≠ s := by have := Nat.le_refl H2.length; omega
        have gk1 : KeepS (fun i => i ≠ s /\ i < H2.length) H2 (H2 ++ [⟨[.int .i64 1, .int .i64 2, .int .i64 p], true, true⟩]) := fun i hi => List.getElem?_append_left (by have := Nat.le_refl H2.length; omega)
        try simp (maxSteps := 1000000) [go_sem, wp1]
        generalize H2 ++ [(⟨[.int .i64 1, .int .i64 2, .int .i64 p], true, true⟩ : Blk)] = G1 at gp1 gb6 gk1 ⊢
        refine andK_intro gk1 ?_
        have gle1 : H2.length <= G1.length := Nat.le_trans (Nat.le_refl H2.length) (gp1.length_le)
        have gsm1 : Same (fun j => j = s) H2 G1 := (Same.refl (fun j => j = s) H2).trans (Same.of_prefix gp1)
        refine vGS_alt ?_ ?_
        · have gp2 : G1 <+: G1 ++ [⟨[.int .i64 2, .int .i64 p, .int .i64 ((p : Int) - 1)], true, true⟩] := List.prefix_append _ _
          have gb14 : (G1 ++ [(⟨[.int .i64 2, .int .i64 p, .int .i64 ((p : Int) - 1)], true, true⟩ : Blk)])[G1.length]? = some ⟨ints [2, (p : Int), (p : Int) - 1], true, true⟩ := by simp [ints]
          have gn14 : G1.length ≠ s := by have := gle1; omega
          have gk2 : KeepS (fun i => i ≠ s /\ i < H2.length) G1 (G1 ++ [⟨[.int .i64 2, .int .i64 p, .int .i64 ((p : Int) - 1)], true, true⟩]) := fun i hi => List.getElem?_append_left (by have := gle1; omega)
          try simp (maxSteps := 1000000) [go_sem, wp1]
          generalize G1 ++ [(⟨[.int .i64 2, .int .i64 p, .int .i64 ((p : Int) - 1)], true, true⟩ : Blk)] = G2 at gp2 gb14 gk2 ⊢
          refine andK_intro gk2 ?_
          have gle2 : H2.length <= G2.length := Nat.le_trans (gle1) (gp2.length_le)
          have gsm2 : Same (fun j => j = s) H2 G2 := gsm1.trans (Same.of_prefix gp2)
          try simp (maxSteps := 1000000) [go_sem, wp1]
          refine next_ok ((hS2.pre gp1).pre gp2) _ ?_
          intro G3 r2 gs3 gl3 gS3 r20 r21
          have gk3 : KeepS (fun i => i ≠ s /\ i < H2.length) G2 G3 := fun i hi => gs3.2 i (by have := gle2; omega) hi.1
          try simp (maxSteps := 1000000) [go_sem, wp1]
          refine andK_intro gk3 ?_
          try simp (maxSteps := 1000000) [go_sem, wp1]
          have gb6 := gs3.get (pget gp2 gb6) (by omega)
          have gb14 := gs3.get gb14 (by omega)
          have gle3 : H2.length <= G3.length := Nat.le_trans (gle2) (gs3.1)
          have gsm3 : Same (fun j => j = s) H2 G3 := gsm2.trans gs3
          try simp (maxSteps := 1000000) [go_sem, wp1]
          refine pick_ok gS3 (xs := [1, 2, (p : Int)]) gb6 (by omega) (by simp) (by simp) _ ?_
          intro G4 r7 gs4 gl4 gS4 r7m
          have gk4 : KeepS (fun i => i ≠ s /\ i < H2.length) G3 G4 := fun i hi => gs4.2 i (by have := gle3; omega) hi.1
          try simp (maxSteps := 1000000) [go_sem, wp1]
          refine andK_intro gk4 ?_
          try simp (maxSteps := 1000000) [go_sem, wp1]
          have gb6 := gs4.get gb6 (by omega)
          have gb14 := gs4.get gb14 (by omega)
          have gle4 : H2.length <= G4.length := Nat.le_trans (gle3) (gs4.1)
          have gsm4 : Same (fun j => j = s) H2 G4 := gsm3.trans gs4
          try simp (maxSteps := 1000000) [go_sem, wp1]
          refine pick_ok gS4 (xs := [2, (p : Int), (p : Int) - 1]) gb14 (by omega) (by simp) (by simp) _ ?_
          intro G5 r15 gs5 gl5 gS5 r15m
          have gb6 := gs5.get gb6 (by omega)
          have gb14 := gs5.get gb14 (by omega)
          have gle5 : H2.length <= G5.length := Nat.le_trans (gle4) (gs5.1)
          have gsm5 : Same (fun j => j = s) H2 G5 := gsm4.trans gs5
          have zp : G5 <+: G5 ++ [⟨[.int .i64 r2, .int .i64 r7, .int .i64 r15], true, true⟩] := List.prefix_append _ _
          have zc : cellsAt (G5 ++ [(⟨[.int .i64 r2, .int .i64 r7, .int .i64 r15], true, true⟩ : Blk)]) G5.length 0 3 = some [.int .i64 r2, .int .i64 r7, .int .i64 r15] := by rw [cellsAt_of (b := ⟨[.int .i64 r2, .int .i64 r7, .int .i64 r15], true, true⟩) (by simp) rfl (by simp)]; rfl
          have zv := (hv2.keep gsm5 (fun j hj e => by omega)).pre zp
          obtain ⟨v9, H9, zap, ze, zk, zl⟩ := zv.append (m := 1) (news := [.int .i64 r2, .int .i64 r7, .int .i64 r15]) (by omega) (by have := zp.length_le; omega) rfl
          obtain ⟨sl9, rfl⟩ := ze.shape
          obtain ⟨f1, f2, f3, f4⟩ := last _ H9 r2 r7 r15 sl9 (gsm5.trans (Same.of_prefix zp)) (gS5.pre zp) zk zl ze ⟨r20, r21⟩ r7m r15m
          simp (maxSteps := 1000000) [go_sem, wp1, zc, zap, f1, f2, f4]
          exact andK_intro (by omega) f3
        · try simp (maxSteps := 1000000) [go_sem, wp1]
          refine next_ok (hS2.pre gp1) _ ?_
          intro G2 r2 gs2 gl2 gS2 r20 r21
          have gk2 : KeepS (fun i => i ≠ s /\ i < H2.length) G1 G2 := fun i hi => gs2.2 i (by have := gle1; omega) hi.1
          try simp (maxSteps := 1000000) [go_sem, wp1]
          refine andK_intro gk2 ?_
          try simp (maxSteps := 1000000) [go_sem, wp1]
          have gb6 := gs2.get gb6 (by omega)
          have gle2 : H2.length <= G2.length := Nat.le_trans (gle1) (gs2.1)
          have gsm2 : Same (fun j => j = s) H2 G2 := gsm1.trans gs2
          refine vGS_alt ?_ ?_
          · have gp3 : G2 <+: G2 ++ [⟨[.int .i64 2, .int .i64 p, .int .i64 ((p : Int) - 1)], true, true⟩] := List.prefix_append _ _
            have gb14 : (G2 ++ [(⟨[.int .i64 2, .int .i64 p, .int .i64 ((p : Int) - 1)], true, true⟩ : Blk)])[G2.length]? = some ⟨ints [2, (p : Int), (p : Int) - 1], true, true⟩ := by simp [ints]
            have gn14 : G2.length ≠ s := by have := gle2; omega
            have gk3 : KeepS (fun i => i ≠ s /\ i < H2.length) G2 (G2 ++ [⟨[.int .i64 2, .int .i64 p, .int .i64 ((p : Int) - 1)], true, true⟩]) := fun i hi => List.getElem?_append_left (by have := gle2; omega)
            try simp (maxSteps := 1000000) [go_sem, wp1]
            generalize G2 ++ [(⟨[.int .i64 2, .int .i64 p, .int .i64 ((p : Int) - 1)], true, true⟩ : Blk)] = G3 at gp3 gb14 gk3 ⊢
            refine andK_intro gk3 ?_
            have gle3 : H2.length <= G3.length := Nat.le_trans (gle2) (gp3.length_le)
            have gsm3 : Same (fun j => j = s) H2 G3 := gsm2.trans (Same.of_prefix gp3)
            try simp (maxSteps := 1000000) [go_sem, wp1]
            refine pick_ok (gS2.pre gp3) (xs := [1, 2, (p : Int)]) (pget gp3 gb6) (by omega) (by simp) (by simp) _ ?_
            intro G4 r7 gs4 gl4 gS4 r7m
            have gk4 : KeepS (fun i => i ≠ s /\ i < H2.length) G3 G4 := fun i hi => gs4.2 i (by have := gle3; omega) hi.1
            try simp (maxSteps := 1000000) [go_sem, wp1]
            refine andK_intro gk4 ?_
            try simp (maxSteps := 1000000) [go_sem, wp1]
            have gb6 := gs4.get (pget gp3 gb6) (by omega)
            have gb14 := gs4.get gb14 (by omega)
            have gle4 : H2.length <= G4.length := Nat.le_trans (gle3) (gs4.1)
            have gsm4 : Same (fun j => j = s) H2 G4 := gsm3.trans gs4
            try simp (maxSteps := 1000000) [go_sem, wp1]
            refine pick_ok gS4 (xs := [2, (p : Int), (p : Int) - 1]) gb14 (by omega) (by simp) (by simp) _ ?_
            intro G5 r15 gs5 gl5 gS5 r15m
            have gb6 := gs5.get gb6 (by omega)
            have gb14 := gs5.get gb14 (by omega)
            have gle5 : H2.length <= G5.length := Nat.le_trans (gle4) (gs5.1)
            have gsm5 : Same (fun j => j = s) H2 G5 := gsm4.trans gs5
            have zp : G5 <+: G5 ++ [⟨[.int .i64 r2, .int .i64 r7, .int .i64 r15], true, true⟩] := List.prefix_append _ _
            have zc : cellsAt (G5 ++ [(⟨[.int .i64 r2, .int .i64 r7, .int .i64 r15], true, true⟩ : Blk)]) G5.length 0 3 = some [.int .i64 r2, .int .i64 r7, .int .i64 r15] := by rw [cellsAt_of (b := ⟨[.int .i64 r2, .int .i64 r7, .int .i64 r15], true, true⟩) (by simp) rfl (by simp)]; rfl
            have zv := (hv2.keep gsm5 (fun j hj e => by omega)).pre zp
            obtain ⟨v9, H9, zap, ze, zk, zl⟩ := zv.append (m := 1) (news := [.int .i64 r2, .int .i64 r7, .int .i64 r15]) (by omega) (by have := zp.length_le; omega) rfl
            obtain ⟨sl9, rfl⟩ := ze.shape
            obtain ⟨f1, f2, f3, f4⟩ := last _ H9 r2 r7 r15 sl9 (gsm5.trans (Same.of_prefix zp)) (gS5.pre zp) zk zl ze ⟨r20, r21⟩ r7m r15m
            simp (maxSteps := 1000000) [go_sem, wp1, zc, zap, f1, f2, f4]
            exact andK_intro (by omega) f3
          · try simp (maxSteps := 1000000) [go_sem, wp1]
            refine pick_ok gS2 (xs := [1, 2, (p : Int)]) gb6 (by omega) (by simp) (by simp) _ ?_
            intro G3 r7 gs3 gl3 gS3 r7m
            have gk3 : KeepS (fun i => i ≠ s /\ i < H2.length) G2 G3 := fun i hi => gs3.2 i (by have := gle2; omega) hi.1
            try simp (maxSteps := 1000000) [go_sem, wp1]
            refine andK_intro gk3 ?_
            try simp (maxSteps := 1000000) [go_sem, wp1]
            have gb6 := gs3.get gb6 (by omega)
            have gle3 : H2.length <= G3.length := Nat.le_trans (gle2) (gs3.1)
            have gsm3 : Same (fun j => j = s) H2 G3 := gsm2.trans gs3
            have gp4 : G3 <+: G3 ++ [⟨[.int .i64 2, .int .i64 p, .int .i64 ((p : Int) - 1)], true, true⟩] := List.prefix_append _ _
            have gb14 : (G3 ++ [(⟨[.int .i64 2, .int .i64 p, .int .i64 ((p : Int) - 1)], true, true⟩ : Blk)])[G3.length]? = some ⟨ints [2, (p : Int), (p : Int) - 1], true, true⟩ := by simp [ints]
            have gn14 : G3.length ≠ s := by have := gle3; omega
            have gk4 : KeepS (fun i => i ≠ s /\ i < H2.length) G3 (G3 ++ [⟨[.int .i64 2, .int .i64 p, .int .i64 ((p : Int) - 1)], true, true⟩]) := fun i hi => List.getElem?_append_left (by have := gle3; omega)
            try simp (maxSteps := 1000000) [go_sem, wp1]
            generalize G3 ++ [(⟨[.int .i64 2, .int .i64 p, .int .i64 ((p : Int) - 1)], true, true⟩ : Blk)] = G4 at gp4 gb14 gk4 ⊢
            refine andK_intro gk4 ?_
            have gle4 : H2.length <= G4.length := Nat.le_trans (gle3) (gp4.length_le)
            have gsm4 : Same (fun j => j = s) H2 G4 := gsm3.trans (Same.of_prefix gp4)
            try simp (maxSteps := 1000000) [go_sem, wp1]
            refine pick_ok (gS3.pre gp4) (xs := [2, (p : Int), (p : Int) - 1]) gb14 (by omega) (by simp) (by simp) _ ?_
            intro G5 r15 gs5 gl5 gS5 r15m
            have gb6 := gs5.get (pget gp4 gb6) (by omega)
            have gb14 := gs5.get gb14 (by omega)
            have gle5 : H2.length <= G5.length := Nat.le_trans (gle4) (gs5.1)
            have gsm5 : Same (fun j => j = s) H2 G5 := gsm4.trans gs5
            have zp : G5 <+: G5 ++ [⟨[.int .i64 r2, .int .i64 r7, .int .i64 r15], true, true⟩] := List.prefix_append _ _
            have zc : cellsAt (G5 ++ [(⟨[.int .i64 r2, .int .i64 r7, .int .i64 r15], true, true⟩ : Blk)]) G5.length 0 3 = some [.int .i64 r2, .int .i64 r7, .int .i64 r15] := by rw [cellsAt_of (b := ⟨[.int .i64 r2, .int .i64 r7, .int .i64 r15], true, true⟩) (by simp) rfl (by simp)]; rfl
            have zv := (hv2.keep gsm5 (fun j hj e => by omega)).pre zp
            obtain ⟨v9, H9, zap, ze, zk, zl⟩ := zv.append (m := 1) (news := [.int .i64 r2, .int .i64 r7, .int .i64 r15]) (by omega) (by have := zp.length_le; omega) rfl
            obtain ⟨sl9, rfl⟩ := ze.shape
            obtain ⟨f1, f2, f3, f4⟩ := last _ H9 r2 r7 r15 sl9 (gsm5.trans (Same.of_prefix zp)) (gS5.pre zp) zk zl ze ⟨r20, r21⟩ r7m r15m
            simp (maxSteps := 1000000) [go_sem, wp1, zc, zap, f1, f2, f4]
            exact andK_intro (by omega) f3
      · refine vGS_alt ?_ ?_
        · have gp1 : H2 <+: H2 ++ [⟨[.int .i64 2, .int .i64 p, .int .i64 ((p : Int) - 1)], true, true⟩] := List.prefix_append _ _
          have gb14 : (H2 ++ [(⟨[.int .i64 2, .int .i64 p, .int .i64 ((p : Int) - 1)], true, true⟩ : Blk)])[H2.length]? = some ⟨ints [2, (p : Int), (p : Int) - 1], true, true⟩ := by simp [ints]
          have gn14 : H2.length ≠ s := by have := Nat.le_refl H2.length; omega
          have gk1 : KeepS (fun i => i ≠ s /\ i < H2.length) H2 (H2 ++ [⟨[.int .i64 2, .int .i64 p, .int .i64 ((p : Int) - 1)], true, true⟩]) := fun i hi => List.getElem?_append_left (by have := Nat.le_refl H2.length; omega)
          try simp (maxSteps := 1000000) [go_sem, wp1]
          generalize H2 ++ [(⟨[.int .i64 2, .int .i64 p, .int .i64 ((p : Int) - 1)], true, true⟩ : Blk)] = G1 at gp1 gb14 gk1 ⊢
          refine andK_intro gk1 ?_
          have gle1 : H2.length <= G1.length := Nat.le_trans (Nat.le_refl H2.length) (gp1.length_le)
          have gsm1 : Same (fun j => j = s) H2 G1 := (Same.refl (fun j => j = s) H2).trans (Same.of_prefix gp1)
          refine vGS_alt ?_ ?_
          · have gp2 : G1 <+: G1 ++ [⟨[.int .i64 1, .int .i64 2, .int .i64 p], true, true⟩] := List.prefix_append _ _
            have gb6 : (G1 ++ [(⟨[.int .i64 1, .int .i64 2, .int .i64 p], true, true⟩ : Blk)])[G1.length]? = some ⟨ints [1, 2, (p : Int)], true, true⟩ := by simp [ints]
            have gn6 : G1.length ≠ s := by have := gle1; omega
            have gk2 : KeepS (fun i => i ≠ s /\ i < H2.length) G1 (G1 ++ [⟨[.int .i64 1, .int .i64 2, .int .i64 p], true, true⟩]) := fun i hi => List.getElem?_append_left (by have := gle1; omega)
            try simp (maxSteps := 1000000) [go_sem, wp1]
            generalize G1 ++ [(⟨[.int .i64 1, .int .i64 2, .int .i64 p], true, true⟩ : Blk)] = G2 at gp2 gb6 gk2 ⊢
            refine andK_intro gk2 ?_
            have gle2 : H2.length <= G2.length := Nat.le_trans (gle1) (gp2.length_le)
            have gsm2 : Same (fun j => j = s) H2 G2 := gsm1.trans (Same.of_prefix gp2)
            try simp (maxSteps := 1000000) [go_sem, wp1]
            refine next_ok ((hS2.pre gp1).pre gp2) _ ?_
            intro G3 r2 gs3 gl3 gS3 r20 r21
            have gk3 : KeepS (fun i => i ≠ s /\ i < H2.length) G2 G3 := fun i hi => gs3.2 i (by have := gle2; omega) hi.1
            try simp (maxSteps := 1000000) [go_sem, wp1]
            refine andK_intro gk3 ?_
            try simp (maxSteps := 1000000) [go_sem, wp1]
            have gb14 := gs3.get (pget gp2 gb14) (by omega)
            have gb6 := gs3.get gb6 (by omega)
            have gle3 : H2.length <= G3.length := Nat.le_trans (gle2) (gs3.1)
            have gsm3 : Same (fun j => j = s) H2 G3 := gsm2.trans gs3
            try simp (maxSteps := 1000000) [go_sem, wp1]
            refine pick_ok gS3 (xs := [1, 2, (p : Int)]) gb6 (by omega) (by simp) (by simp) _ ?_
            intro G4 r7 gs4 gl4 gS4 r7m
            have gk4 : KeepS (fun i => i ≠ s /\ i < H2.length) G3 G4 := fun i hi => gs4.2 i (by have := gle3; omega) hi.1
            try simp (maxSteps := 1000000) [go_sem, wp1]
            refine andK_intro gk4 ?_
            try simp (maxSteps := 1000000) [go_sem, wp1]
            have gb14 := gs4.get gb14 (by omega)
            have gb6 := gs4.get gb6 (by omega)
            have gle4 : H2.length <= G4.length := Nat.le_trans (gle3) (gs4.1)
            have gsm4 : Same (fun j => j = s) H2 G4 := gsm3.trans gs4
            try simp (maxSteps := 1000000) [go_sem, wp1]
            refine pick_ok gS4 (xs := [2, (p : Int), (p : Int) - 1]) gb14 (by omega) (by simp) (by simp) _ ?_
            intro G5 r15 gs5 gl5 gS5 r15m
            have gb14 := gs5.get gb14 (by omega)
            have gb6 := gs5.get gb6 (by omega)
            have gle5 : H2.length <= G5.length := Nat.le_trans (gle4) (gs5.1)
            have gsm5 : Same (fun j => j = s) H2 G5 := gsm4.trans gs5
            have zp : G5 <+: G5 ++ [⟨[.int .i64 r2, .int .i64 r7, .int .i64 r15], true, true⟩] := List.prefix_append _ _
            have zc : cellsAt (G5 ++ [(⟨[.int .i64 r2, .int .i64 r7, .int .i64 r15], true, true⟩ : Blk)]) G5.length 0 3 = some [.int .i64 r2, .int .i64 r7, .int .i64 r15] := by rw [cellsAt_of (b := ⟨[.int .i64 r2, .int .i64 r7, .int .i64 r15], true, true⟩) (by simp) rfl (by simp)]; rfl
            have zv := (hv2.keep gsm5 (fun j hj e => by omega)).pre zp
            obtain ⟨v9, H9, zap, ze, zk, zl⟩ := zv.append (m := 1) (news := [.int .i64 r2, .int .i64 r7, .int .i64 r15]) (by omega) (by have := zp.length_le; omega) rfl
            obtain ⟨sl9, rfl⟩ := ze.shape
            obtain ⟨f1, f2, f3, f4⟩ := last _ H9 r2 r7 r15 sl9 (gsm5.trans (Same.of_prefix zp)) (gS5.pre zp) zk zl ze ⟨r20, r21⟩ r7m r15m
            simp (maxSteps := 1000000) [go_sem, wp1, zc, zap, f1, f2, f4]
            exact andK_intro (by omega) f3
          · try simp (maxSteps := 1000000) [go_sem, wp1]
            refine next_ok (hS2.pre gp1) _ ?_
            intro G2 r2 gs2 gl2 gS2 r20 r21
            have gk2 : KeepS (fun i => i ≠ s /\ i < H2.length) G1 G2 := fun i hi => gs2.2 i (by have := gle1; omega) hi.1
            try simp (maxSteps := 1000000) [go_sem, wp1]
            refine andK_intro gk2 ?_
            try simp (maxSteps := 1000000) [go_sem, wp1]
            have gb14 := gs2.get gb14 (by omega)
            have gle2 : H2.length <= G2.length := Nat.le_trans (gle1) (gs2.1)
            have gsm2 : Same (fun j => j = s) H2 G2 := gsm1.trans gs2
            have gp3 : G2 <+: G2 ++ [⟨[.int .i64 1, .int .i64 2, .int .i64 p], true, true⟩] := List.prefix_append _ _
            have gb6 : (G2 ++ [(⟨[.int .i64 1, .int .i64 2, .int .i64 p], true, true⟩ : Blk)])[G2.length]? = some ⟨ints [1, 2, (p : Int)], true, true⟩ := by simp [ints]
            have gn6 : G2.length ≠ s := by have := gle2; omega
            have gk3 : KeepS (fun i => i ≠ s /\ i < H2.length) G2 (G2 ++ [⟨[.int .i64 1, .int .i64 2, .int .i64 p], true, true⟩]) := fun i hi => List.getElem?_append_left (by have := gle2; omega)
            try simp (maxSteps := 1000000) [go_sem, wp1]
            generalize G2 ++ [(⟨[.int .i64 1, .int .i64 2, .int .i64 p], true, true⟩ : Blk)] = G3 at gp3 gb6 gk3 ⊢
            refine andK_intro gk3 ?_
            have gle3 : H2.length <= G3.length := Nat.le_trans (gle2) (gp3.length_le)
            have gsm3 : Same (fun j => j = s) H2 G3 := gsm2.trans (Same.of_prefix gp3)
            try simp (maxSteps := 1000000) [go_sem, wp1]
            refine pick_ok (gS2.pre gp3) (xs := [1, 2, (p : Int)]) gb6 (by omega) (by simp) (by simp) _ ?_
            intro G4 r7 gs4 gl4 gS4 r7m
            have gk4 : KeepS (fun i => i ≠ s /\ i < H2.length) G3 G4 := fun i hi => gs4.2 i (by have := gle3; omega) hi.1
            try simp (maxSteps := 1000000) [go_sem, wp1]
            refine andK_intro gk4 ?_
            try simp (maxSteps := 1000000) [go_sem, wp1]
            have gb14 := gs4.get (pget gp3 gb14) (by omega)
            have gb6 := gs4.get gb6 (by omega)
            have gle4 : H2.length <= G4.length := Nat.le_trans (gle3) (gs4.1)
            have gsm4 : Same (fun j => j = s) H2 G4 := gsm3.trans gs4
            try simp (maxSteps := 1000000) [go_sem, wp1]
            refine pick_ok gS4 (xs := [2, (p : Int), (p : Int) - 1]) gb14 (by omega) (by simp) (by simp) _ ?_
            intro G5 r15 gs5 gl5 gS5 r15m
            have gb14 := gs5.get gb14 (by omega)
            have gb6 := gs5.get gb6 (by omega)
            have gle5 : H2.length <= G5.length := Nat.le_trans (gle4) (gs5.1)
            have gsm5 : Same (fun j => j = s) H2 G5 := gsm4.trans gs5
            have zp : G5 <+: G5 ++ [⟨[.int .i64 r2, .int .i64 r7, .int .i64 r15], true, true⟩] := List.prefix_append _ _
            have zc : cellsAt (G5 ++ [(⟨[.int .i64 r2, .int .i64 r7, .int .i64 r15], true, true⟩ : Blk)]) G5.length 0 3 = some [.int .i64 r2, .int .i64 r7, .int .i64 r15] := by rw [cellsAt_of (b := ⟨[.int .i64 r2, .int .i64 r7, .int .i64 r15], true, true⟩) (by simp) rfl (by simp)]; rfl
            have zv := (hv2.keep gsm5 (fun j hj e => by omega)).pre zp
            obtain ⟨v9, H9, zap, ze, zk, zl⟩ := zv.append (m := 1) (news := [.int .i64 r2, .int .i64 r7, .int .i64 r15]) (by omega) (by have := zp.length_le; omega) rfl
            obtain ⟨sl9, rfl⟩ := ze.shape
            obtain ⟨f1, f2, f3, f4⟩ := last _ H9 r2 r7 r15 sl9 (gsm5.trans (Same.of_prefix zp)) (gS5.pre zp) zk zl ze ⟨r20, r21⟩ r7m r15m
            simp (maxSteps := 1000000) [go_sem, wp1, zc, zap, f1, f2, f4]
            exact andK_intro (by omega) f3
        · try simp (maxSteps := 1000000) [go_sem, wp1]
          refine next_ok hS2 _ ?_
          intro G1 r2 gs1 gl1 gS1 r20 r21
          have gk1 : KeepS (fun i => i ≠ s /\ i < H2.length) H2 G1 := fun i hi => gs1.2 i (by have := Nat.le_refl H2.length; omega) hi.1
          try simp (maxSteps := 1000000) [go_sem, wp1]
          refine andK_intro gk1 ?_
          try simp (maxSteps := 1000000) [go_sem, wp1]
          have gle1 : H2.length <= G1.length := Nat.le_trans (Nat.le_refl H2.length) (gs1.1)
          have gsm1 : Same (fun j => j = s) H2 G1 := (Same.refl (fun j => j = s) H2).trans gs1
          refine vGS_alt ?_ ?_
          · have gp2 : G1 <+: G1 ++ [⟨[.int .i64 2, .int .i64 p, .int .i64 ((p : Int) - 1)], true, true⟩] := List.prefix_append _ _
            have gb14 : (G1 ++ [(⟨[.int .i64 2, .int .i64 p, .int .i64 ((p : Int) - 1)], true, true⟩ : Blk)])[G1.length]? = some ⟨ints [2, (p : Int), (p : Int) - 1], true, true⟩ := by simp [ints]
            have gn14 : G1.length ≠ s := by have := gle1; omega
            have gk2 : KeepS (fun i => i ≠ s /\ i < H2.length) G1 (G1 ++ [⟨[.int .i64 2, .int .i64 p, .int .i64 ((p : Int) - 1)], true, true⟩]) := fun i hi => List.getElem?_append_left (by have := gle1; omega)
            try simp (maxSteps := 1000000) [go_sem, wp1]
            rw [show G1 ++ [(⟨[.int .i64 2, .int .i64 p, .int .i64 ((p : Int) - 1)], true, true⟩ : Blk), ⟨[.int .i64 1, .int .i64 2, .int .i64 p], true, true⟩] = (G1 ++ [(⟨[.int .i64 2, .int .i64 p, .int .i64 ((p : Int) - 1)], true, true⟩ : Blk)]) ++ [⟨[.int .i64 1, .int .i64 2, .int .i64 p], true, true⟩] by simp]
            have gz2 : (G1 ++ [(⟨[.int .i64 2, .int .i64 p, .int .i64 ((p : Int) - 1)], true, true⟩ : Blk)]).length = G1.length + 1 := by simp
            generalize G1 ++ [(⟨[.int .i64 2, .int .i64 p, .int .i64 ((p : Int) - 1)], true, true⟩ : Blk)] = G2 at gp2 gb14 gk2 gz2 ⊢
            refine andK_intro gk2 ?_
            have gle2 : H2.length <= G2.length := Nat.le_trans (gle1) (gp2.length_le)
            have gsm2 : Same (fun j => j = s) H2 G2 := gsm1.trans (Same.of_prefix gp2)
            have gp3 : G2 <+: G2 ++ [⟨[.int .i64 1, .int .i64 2, .int .i64 p], true, true⟩] := List.prefix_append _ _
            have gb6 : (G2 ++ [(⟨[.int .i64 1, .int .i64 2, .int .i64 p], true, true⟩ : Blk)])[G2.length]? = some ⟨ints [1, 2, (p : Int)], true, true⟩ := by simp [ints]
            have gn6 : G2.length ≠ s := by have := gle2; omega
            have gk3 : KeepS (fun i => i ≠ s /\ i < H2.length) G2 (G2 ++ [⟨[.int .i64 1, .int .i64 2, .int .i64 p], true, true⟩]) := fun i hi => List.getElem?_append_left (by have := gle2; omega)
            generalize G2 ++ [(⟨[.int .i64 1, .int .i64 2, .int .i64 p], true, true⟩ : Blk)] = G3 at gp3 gb6 gk3 ⊢
            rw [gz2] at gb6 gn6
            refine andK_intro gk3 ?_
            have gle3 : H2.length <= G3.length := Nat.le_trans (gle2) (gp3.length_le)
            have gsm3 : Same (fun j => j = s) H2 G3 := gsm2.trans (Same.of_prefix gp3)
            try simp (maxSteps := 1000000) [go_sem, wp1]
            refine pick_ok ((gS1.pre gp2).pre gp3) (xs := [1, 2, (p : Int)]) gb6 (by omega) (by simp) (by simp) _ ?_
            intro G4 r7 gs4 gl4 gS4 r7m
            have gk4 : KeepS (fun i => i ≠ s /\ i < H2.length) G3 G4 := fun i hi => gs4.2 i (by have := gle3; omega) hi.1
            try simp (maxSteps := 1000000) [go_sem, wp1]
            refine andK_intro gk4 ?_
            try simp (maxSteps := 1000000) [go_sem, wp1]
            have gb14 := gs4.get (pget gp3 gb14) (by omega)
            have gb6 := gs4.get gb6 (by omega)
            have gle4 : H2.length <= G4.length := Nat.le_trans (gle3) (gs4.1)
            have gsm4 : Same (fun j => j = s) H2 G4 := gsm3.trans gs4
            try simp (maxSteps := 1000000) [go_sem, wp1]
            refine pick_ok gS4 (xs := [2, (p : Int), (p : Int) - 1]) gb14 (by omega) (by simp) (by simp) _ ?_
            intro G5 r15 gs5 gl5 gS5 r15m
            have gb14 := gs5.get gb14 (by omega)
            have gb6 := gs5.get gb6 (by omega)
            have gle5 : H2.length <= G5.length := Nat.le_trans (gle4) (gs5.1)
            have gsm5 : Same (fun j => j = s) H2 G5 := gsm4.trans gs5
            have zp : G5 <+: G5 ++ [⟨[.int .i64 r2, .int .i64 r7, .int .i64 r15], true, true⟩] := List.prefix_append _ _
            have zc : cellsAt (G5 ++ [(⟨[.int .i64 r2, .int .i64 r7, .int .i64 r15], true, true⟩ : Blk)]) G5.length 0 3 = some [.int .i64 r2, .int .i64 r7, .int .i64 r15] := by rw [cellsAt_of (b := ⟨[.int .i64 r2, .int .i64 r7, .int .i64 r15], true, true⟩) (by simp) rfl (by simp)]; rfl
            have zv := (hv2.keep gsm5 (fun j hj e => by omega)).pre zp
            obtain ⟨v9, H9, zap, ze, zk, zl⟩ := zv.append (m := 1) (news := [.int .i64 r2, .int .i64 r7, .int .i64 r15]) (by omega) (by have := zp.length_le; omega) rfl
            obtain ⟨sl9, rfl⟩ := ze.shape
            obtain ⟨f1, f2, f3, f4⟩ := last _ H9 r2 r7 r15 sl9 (gsm5.trans (Same.of_prefix zp)) (gS5.pre zp) zk zl ze ⟨r20, r21⟩ r7m r15m
            simp (maxSteps := 1000000) [go_sem, wp1, zc, zap, f1, f2, f4]
            exact andK_intro (by omega) f3
          · have gp2 : G1 <+: G1 ++ [⟨[.int .i64 1, .int .i64 2, .int .i64 p], true, true⟩] := List.prefix_append _ _
            have gb6 : (G1 ++ [(⟨[.int .i64 1, .int .i64 2, .int .i64 p], true, true⟩ : Blk)])[G1.length]? = some ⟨ints [1, 2, (p : Int)], true, true⟩ := by simp [ints]
            have gn6 : G1.length ≠ s := by have := gle1; omega
            have gk2 : KeepS (fun i => i ≠ s /\ i < H2.length) G1 (G1 ++ [⟨[.int .i64 1, .int .i64 2, .int .i64 p], true, true⟩]) := fun i hi => List.getElem?_append_left (by have := gle1; omega)
            try simp (maxSteps := 1000000) [go_sem, wp1]
            generalize G1 ++ [(⟨[.int .i64 1, .int .i64 2, .int .i64 p], true, true⟩ : Blk)] = G2 at gp2 gb6 gk2 ⊢
            refine andK_intro gk2 ?_
            have gle2 : H2.length <= G2.length := Nat.le_trans (gle1) (gp2.length_le)
            have gsm2 : Same (fun j => j = s) H2 G2 := gsm1.trans (Same.of_prefix gp2)
            refine vGS_alt ?_ ?_
            · have gp3 : G2 <+: G2 ++ [⟨[.int .i64 2, .int .i64 p, .int .i64 ((p : Int) - 1)], true, true⟩] := List.prefix_append _ _
              have gb14 : (G2 ++ [(⟨[.int .i64 2, .int .i64 p, .int .i64 ((p : Int) - 1)], true, true⟩ : Blk)])[G2.length]? = some ⟨ints [2, (p : Int), (p : Int) - 1], true, true⟩ := by simp [ints]
              have gn14 : G2.length ≠ s := by have := gle2; omega
              have gk3 : KeepS (fun i => i ≠ s /\ i < H2.length) G2 (G2 ++ [⟨[.int .i64 2, .int .i64 p, .int .i64 ((p : Int) - 1)], true, true⟩]) := fun i hi => List.getElem?_append_left (by have := gle2; omega)
              try simp (maxSteps := 1000000) [go_sem, wp1]
              generalize G2 ++ [(⟨[.int .i64 2, .int .i64 p, .int .i64 ((p : Int) - 1)], true, true⟩ : Blk)] = G3 at gp3 gb14 gk3 ⊢
              refine andK_intro gk3 ?_
              have gle3 : H2.length <= G3.length := Nat.le_trans (gle2) (gp3.length_le)
              have gsm3 : Same (fun j => j = s) H2 G3 := gsm2.trans (Same.of_prefix gp3)
              try simp (maxSteps := 1000000) [go_sem, wp1]
              refine pick_ok ((gS1.pre gp2).pre gp3) (xs := [1, 2, (p : Int)]) (pget gp3 gb6) (by omega) (by simp) (by simp) _ ?_
              intro G4 r7 gs4 gl4 gS4 r7m
              have gk4 : KeepS (fun i => i ≠ s /\ i < H2.length) G3 G4 := fun i hi => gs4.2 i (by have := gle3; omega) hi.1
              try simp (maxSteps := 1000000) [go_sem, wp1]
              refine andK_intro gk4 ?_
              try simp (maxSteps := 1000000) [go_sem, wp1]
              have gb6 := gs4.get (pget gp3 gb6) (by omega)
              have gb14 := gs4.get gb14 (by omega)
              have gle4 : H2.length <= G4.length := Nat.le_trans (gle3) (gs4.1)
              have gsm4 : Same (fun j => j = s) H2 G4 := gsm3.trans gs4
              try simp (maxSteps := 1000000) [go_sem, wp1]
              refine pick_ok gS4 (xs := [2, (p : Int), (p : Int) - 1]) gb14 (by omega) (by simp) (by simp) _ ?_
              intro G5 r15 gs5 gl5 gS5 r15m
              have gb6 := gs5.get gb6 (by omega)
              have gb14 := gs5.get gb14 (by omega)
              have gle5 : H2.length <= G5.length := Nat.le_trans (gle4) (gs5.1)
              have gsm5 : Same (fun j => j = s) H2 G5 := gsm4.trans gs5
              have zp : G5 <+: G5 ++ [⟨[.int .i64 r2, .int .i64 r7, .int .i64 r15], true, true⟩] := List.prefix_append _ _
              have zc : cellsAt (G5 ++ [(⟨[.int .i64 r2, .int .i64 r7, .int .i64 r15], true, true⟩ : Blk)]) G5.length 0 3 = some [.int .i64 r2, .int .i64 r7, .int .i64 r15] := by rw [cellsAt_of (b := ⟨[.int .i64 r2, .int .i64 r7, .int .i64 r15], true, true⟩) (by simp) rfl (by simp)]; rfl
              have zv := (hv2.keep gsm5 (fun j hj e => by omega)).pre zp
              obtain ⟨v9, H9, zap, ze, zk, zl⟩ := zv.append (m := 1) (news := [.int .i64 r2, .int .i64 r7, .int .i64 r15]) (by omega) (by have := zp.length_le; omega) rfl
              obtain ⟨sl9, rfl⟩ := ze.shape
              obtain ⟨f1, f2, f3, f4⟩ := last _ H9 r2 r7 r15 sl9 (gsm5.trans (Same.of_prefix zp)) (gS5.pre zp) zk zl ze ⟨r20, r21⟩ r7m r15m
              simp (maxSteps := 1000000) [go_sem, wp1, zc, zap, f1, f2, f4]
              exact andK_intro (by omega) f3
            · try simp (maxSteps := 1000000) [go_sem, wp1]
              refine pick_ok (gS1.pre gp2) (xs := [1, 2, (p : Int)]) gb6 (by omega) (by simp) (by simp) _ ?_
              intro G3 r7 gs3 gl3 gS3 r7m
              have gk3 : KeepS (fun i => i ≠ s /\ i < H2.length) G2 G3 := fun i hi => gs3.2 i (by have := gle2; omega) hi.1
              try simp (maxSteps := 1000000) [go_sem, wp1]
              refine andK_intro gk3 ?_
              try simp (maxSteps := 1000000) [go_sem, wp1]
              have gb6 := gs3.get gb6 (by omega)
              have gle3 : H2.length <= G3.length := Nat.le_trans (gle2) (gs3.1)
              have gsm3 : Same (fun j => j = s) H2 G3 := gsm2.trans gs3
              have gp4 : G3 <+: G3 ++ [⟨[.int .i64 2, .int .i64 p, .int .i64 ((p : Int) - 1)], true, true⟩] := List.prefix_append _ _
              have gb14 : (G3 ++ [(⟨[.int .i64 2, .int .i64 p, .int .i64 ((p : Int) - 1)], true, true⟩ : Blk)])[G3.length]? = some ⟨ints [2, (p : Int), (p : Int) - 1], true, true⟩ := by simp [ints]
              have gn14 : G3.length ≠ s := by have := gle3; omega
              have gk4 : KeepS (fun i => i ≠ s /\ i < H2.length) G3 (G3 ++ [⟨[.int .i64 2, .int .i64 p, .int .i64 ((p : Int) - 1)], true, true⟩]) := fun i hi => List.getElem?_append_left (by have := gle3; omega)
              try simp (maxSteps := 1000000) [go_sem, wp1]
              generalize G3 ++ [(⟨[.int .i64 2, .int .i64 p, .int .i64 ((p : Int) - 1)], true, true⟩ : Blk)] = G4 at gp4 gb14 gk4 ⊢
              refine andK_intro gk4 ?_
              have gle4 : H2.length <= G4.length := Nat.le_trans (gle3) (gp4.length_le)
              have gsm4 : Same (fun j => j = s) H2 G4 := gsm3.trans (Same.of_prefix gp4)
              try simp (maxSteps := 1000000) [go_sem, wp1]
              refine pick_ok (gS3.pre gp4) (xs := [2, (p : Int), (p : Int) - 1]) gb14 (by omega) (by simp) (by simp) _ ?_
              intro G5 r15 gs5 gl5 gS5 r15m
              have gb6 := gs5.get (pget gp4 gb6) (by omega)
              have gb14 := gs5.get gb14 (by omega)
              have gle5 : H2.length <= G5.length := Nat.le_trans (gle4) (gs5.1)
              have gsm5 : Same (fun j => j = s) H2 G5 := gsm4.trans gs5
              have zp : G5 <+: G5 ++ [⟨[.int .i64 r2, .int .i64 r7, .int .i64 r15], true, true⟩] := List.prefix_append _ _
              have zc : cellsAt (G5 ++ [(⟨[.int .i64 r2, .int .i64 r7, .int .i64 r15], true, true⟩ : Blk)]) G5.length 0 3 = some [.int .i64 r2, .int .i64 r7, .int .i64 r15] := by rw [cellsAt_of (b := ⟨[.int .i64 r2, .int .i64 r7, .int .i64 r15], true, true⟩) (by simp) rfl (by simp)]; rfl
              have zv := (hv2.keep gsm5 (fun j hj e => by omega)).pre zp
              obtain ⟨v9, H9, zap, ze, zk, zl⟩ := zv.append (m := 1) (news := [.int .i64 r2, .int .i64 r7, .int .i64 r15]) (by omega) (by have := zp.length_le; omega) rfl
              obtain ⟨sl9, rfl⟩ := ze.shape
              obtain ⟨f1, f2, f3, f4⟩ := last _ H9 r2 r7 r15 sl9 (gsm5.trans (Same.of_prefix zp)) (gS5.pre zp) zk zl ze ⟨r20, r21⟩ r7m r15m
              simp (maxSteps := 1000000) [go_sem, wp1, zc, zap, f1, f2, f4]
              exact andK_intro (by omega) f3
    · have b1 : (q == 1) = false := by simpa using c1
      by_cases c2 : q = 2
      · subst c2
        obtain ⟨a0, a1, a2, a3⟩ := sys_cells hx2 oneu
        by_cases hn : 1 < bs.length
        · rcases hv2.2 with ⟨e0, _⟩ | ⟨_, e0, _⟩ | ⟨id, hge, e, hb⟩
          · omega
          · omega
          have hb : H2[id]? = some ⟨tri bs, true, true⟩ := hb.resolve_left (fun e => by omega)
          simp at e
          subst e
          obtain ⟨x0, x1, rest, er⟩ : ∃ x0 x1 rest, bs = x0 :: x1 :: rest := by
            match bs, hn with
            | x0 :: x1 :: rest, _ => exact ⟨x0, x1, rest, rfl⟩
          have hhb : Holds H2 id (tri bs) := ⟨true, hb⟩
          have l0 := hhb.cells (o := 0) (n := 3) (by rw [tri_length]; omega)
          have l1 := hhb.cells (o := 3) (n := 3) (by rw [tri_length]; omega)
          rw [er] at l0 l1
          simp [tri, Bk.cells] at l0 l1
          have hn1 : (1 : Int) < bs.length := by omega
          have hn0 : 0 < bs.length := by omega
          have hbl : (tri bs).length = bs.length * 3 := tri_length bs
          have hidl := (List.getElem?_eq_some_iff.1 hb).1
          have hp3 : H2 <+: H2 ++ [⟨[.int .i64 x0.a, .int .i64 x0.b, .int .i64 x0.c], true, true⟩] := List.prefix_append _ _
          have hb3 : (H2 ++ [(⟨[.int .i64 x0.a, .int .i64 x0.b, .int .i64 x0.c], true, true⟩ : Blk)])[id]? = some ⟨tri (x0 :: x1 :: rest), true, true⟩ := by rw [<- er]; exact pget hp3 hb
          have ht3 : (H2 ++ [(⟨[.int .i64 x0.a, .int .i64 x0.b, .int .i64 x0.c], true, true⟩ : Blk)])[H2.length]? = some ⟨[.int .i64 x0.a, .int .i64 x0.b, .int .i64 x0.c], true, true⟩ := by simp
          simp (maxSteps := 1000000) [go_sem, hn, hn1, hn0, l0]
          generalize H2 ++ [(⟨[.int .i64 x0.a, .int .i64 x0.b, .int .i64 x0.c], true, true⟩ : Blk)] = H3 at hp3 hb3 ht3 ⊢
          have l3 : cellsAt H3 id 3 3 = some [.int .i64 x1.a, .int .i64 x1.b, .int .i64 x1.c] := cellsAt_pre hp3 l1
          have s1 : storeAt H3 id 0 [.int .i64 x1.a, .int .i64 x1.b, .int .i64 x1.c] = some (H3.set id ⟨tri (x1 :: x1 :: rest), true, true⟩) := by
            rw [storeAt_of hb3 rfl rfl (by simp [tri, Bk.cells]) (by simp [one_int])]; simp [over, tri, Bk.cells]
          have hlt3 := (List.getElem?_eq_some_iff.1 hb3).1
          have s2 : storeAt (H3.set id ⟨tri (x1 :: x1 :: rest), true, true⟩) id 3 [.int .i64 x0.a, .int .i64 x0.b, .int .i64 x0.c] = some (H3.set id ⟨tri (x1 :: x0 :: rest), true, true⟩) := by
            rw [storeAt_of (List.getElem?_set_self hlt3) rfl rfl (by simp [tri, Bk.cells]) (by simp [one_int])]; simp [over, tri, Bk.cells]
          have t3 : cellsAt (H3.set id ⟨tri (x1 :: x1 :: rest), true, true⟩) H2.length 0 3 = some [.int .i64 x0.a, .int .i64 x0.b, .int .i64 x0.c] := by
            rw [cellsAt_of (b := ⟨[.int .i64 x0.a, .int .i64 x0.b, .int .i64 x0.c], true, true⟩) (by rw [List.getElem?_set_ne (by omega)]; exact ht3) rfl (by simp)]; rfl
          have hs5 : Same (fun j => j = id) H3 (H3.set id ⟨tri (x1 :: x0 :: rest), true, true⟩) := same_set2
          have hb5 : (H3.set id ⟨tri (x1 :: x0 :: rest), true, true⟩)[id]? = some ⟨tri (x1 :: x0 :: rest), true, true⟩ := List.getElem?_set_self hlt3
          have hx5 := hs5.get (pget hp3 hx2) (by omega)
          have hr5 := hs5.get (pget hp3 hr2) (by omega)
          have hln : bs.length = (x1 :: x0 :: rest).length := by rw [er]; rfl
          have hwild2 : Wild p (x1 :: x0 :: rest) := ⟨hwild.pts, by rw [<- hln]; exact hwild.len, fun b hb => hwild.nums b (by rw [er]; simp at hb ⊢; rcases hb with h | h | h <;> simp [h])⟩
          have fin5 := fin (H3.set id ⟨tri (x1 :: x0 :: rest), true, true⟩) p (lv 3 id 0 bs.length) (x1 :: x0 :: rest) (sameUp (hsm2.trans (Same.of_prefix hp3)) hs5 (fun j e => by omega)) ((hS2.pre hp3).keep hs5 (fun j e => ⟨by omega, by omega⟩)) hr5
            (by rw [hln]; exact ⟨by rw [tri_length], .inr (.inr ⟨id, hge, rfl, .inr hb5⟩)⟩) hwild2
          obtain ⟨a0, a1, a2, a3⟩ := sys_cells hx5 oneu
          generalize H3.set id ⟨tri (x1 :: x0 :: rest), true, true⟩ = H5 at *
          generalize H3.set id ⟨tri (x1 :: x1 :: rest), true, true⟩ = H4 at *
          obtain ⟨f1, f2, f3⟩ := fin5
          have hn1' : 1 < bs.length := hn
          simp (maxSteps := 1000000) [go_sem, hn, hn1, hn0, l3, s1, s2, t3, a1, f1, f2]
          exact f3
        · have hn1 : ¬ (1 : Int) < bs.length := by omega
          obtain ⟨f1, f2, f3⟩ := fin H2 p _ bs hsm2 hS2 hr2 hv2 hwild
          simp (maxSteps := 1000000) [go_sem, hn, hn1, a1, f1, f2]
          exact f3
      · have b2 : (q == 2) = false := by simpa using c2
        obtain ⟨a0, a1, a2, a3⟩ := sys_cells hx2 oneu
        obtain ⟨r0, r1, r2, r3⟩ := sys_cells hr2 rfl
        have r3' := r3 p _ oneu
        have hs4 : Same (fun j => j = H.length + 1) H2 (H2.set (H.length + 1) ⟨[.int .i64 p, lv 3 ui 0 bs.length], true, true⟩) := same_set2
        have hr4 : (H2.set (H.length + 1) ⟨[.int .i64 p, lv 3 ui 0 bs.length], true, true⟩)[H.length + 1]? = some ⟨[.int .i64 p, lv 3 ui 0 bs.length], true, true⟩ := List.getElem?_set_self (List.getElem?_eq_some_iff.1 hr2).1
        have hsm4 := sameUp hsm2 hs4 (fun j e => by omega)
        have fin4 := h _ p _ bs hsm4 (hS2.keep hs4 (fun j e => ⟨by omega, by omega⟩)) (hu.keep hsm4 (fun j hj e => by omega)) hwild
        generalize H2.set (H.length + 1) ⟨[.int .i64 p, lv 3 ui 0 bs.length], true, true⟩ = H4 at *
        obtain ⟨y0, y1, y2, y3⟩ := sys_cells hr4 oneu
        simp (maxSteps := 1000000) [go_sem, b0, b1, b2, a0, r3', y0]
        exact ⟨_, Up.refl _ _, fin4⟩

end Go.Proofs.YtfnegaedkomcgaaGreat
end

section
namespace Go.Proofs.YtfnegaedkomcgaaGreat
open Go.Ab

theorem spoil_ok {L s : Nat} {H : Heap} (hs : Src L s H) (Post : Value -> Heap -> Prop)
    (h : ∀ (H' : Heap) (q : Int) (w : Value) (cs : List Bk), Same (fun j => j = s) H H' -> Src L s H' -> BIn H.length H' w cs -> Wild q cs -> Post (sysV q w) H') :
    ACalls Tryz.prog 47 [.pointer (some ⟨s, 0, none⟩)] H Post := by
  have hslt := hs.lt
  refine acalls_vc (rs := [.cell 2 26]) Tryz.func47 rfl rfl Tryz.ntmps47 rfl rfl ?_
  simp (maxSteps := 1000000) [go_sem]
  have hp0 : H <+: H ++ [⟨[.int .i64 0, .slice none 0 0], true, true⟩] := List.prefix_append _ _
  have hr0 : (H ++ [(⟨[.int .i64 0, .slice none 0 0], true, true⟩ : Blk)])[H.length]? = some ⟨[.int .i64 0, .slice none 0 0], true, true⟩ := by simp
  have hl0 : (H ++ [(⟨[.int .i64 0, .slice none 0 0], true, true⟩ : Blk)]).length = H.length + 1 := by simp
  generalize H ++ [(⟨[.int .i64 0, .slice none 0 0], true, true⟩ : Blk)] = H0 at hp0 hr0 hl0 ⊢
  refine draw_ok (hs.pre hp0) _ ?_
  intro H1 p w bs hs1 hS1 hw hd hlb
  have hle1 := hs1.1
  have onew := hw.one
  simp (maxSteps := 1000000) [go_sem, sysV]
  refine bad_ok hS1 hw (by omega) hs1.1 hd _ ?_
  intro H2 q z cs hs2 hS2 hz hwd
  have hr2 := hs2.get (hs1.get hr0 (by omega)) (by omega)
  obtain ⟨r0, r1, r2, r3⟩ := sys_cells hr2 rfl
  have r3' := r3 q z hz.one
  have hs3 : Same (fun j => j = H.length) H2 (H2.set H.length ⟨[.int .i64 q, z], true, true⟩) := same_set2
  have hr3 : (H2.set H.length ⟨[.int .i64 q, z], true, true⟩)[H.length]? = some ⟨[.int .i64 q, z], true, true⟩ := List.getElem?_set_self (List.getElem?_eq_some_iff.1 hr2).1
  have fin := h _ q z cs (sameUp (((Same.of_prefix hp0).trans hs1).trans hs2) hs3 (fun j e => by omega)) (hS2.keep hs3 (fun j e => ⟨by have := hs.1; omega, by omega⟩)) ((hz.keep hs3 (fun j hj e => by omega)).wider (by omega)) hwd
  generalize H2.set H.length ⟨[.int .i64 q, z], true, true⟩ = H3 at *
  obtain ⟨y0, y1, y2, y3⟩ := sys_cells hr3 hz.one
  simp (maxSteps := 1000000) [go_sem, sysV, r3', y0]
  exact fin

end Go.Proofs.YtfnegaedkomcgaaGreat
end

section
namespace Go.Proofs.YtfnegaedkomcgaaGreat
open Go.Ab

def NIn (lo : Nat) (H : Heap) (v : Value) (xs : List Int) : Prop := ∃ b, IntsIn lo b H v xs
theorem NIn.keep {lo : Nat} {H H' : Heap} {u : Value} {xs : List Int} (h : NIn lo H u xs) {S : Nat -> Prop} (hs : Same S H H') (hd : ∀ j, lo <= j -> ¬ S j) : NIn lo H' u xs := by
  obtain ⟨b, h⟩ := h
  exact ⟨b, h.keep hs (fun j hj => hd j hj.1)⟩
theorem NIn.read {lo : Nat} {H : Heap} {u : Value} {xs : List Int} (h : NIn lo H u xs) : IntsAt H u xs := by obtain ⟨b, h⟩ := h; exact h.read
theorem NIn.wider {lo lo' : Nat} {H : Heap} {u : Value} {xs : List Int} (h : NIn lo H u xs) (hl : lo' <= lo) : NIn lo' H u xs := by obtain ⟨b, h⟩ := h; exact ⟨b, h.wider hl⟩
theorem ol_nin {lo : Nat} {H : Heap} {id n : Nat} {xs : List Int} (h : OL 1 H id (ints xs) n) (hn : xs.length = n) (hlo : lo <= id) (hl : n <= 1000000) : NIn lo H (lv 1 id 0 n) xs := by
  subst hn
  refine ⟨H.length, id, ⟨rfl, ?_, by omega⟩, fun _ => ⟨hlo, h.lt⟩⟩
  rcases h.2 with ⟨h0, _⟩ | h0
  · exact .inl (List.eq_nil_of_length_eq_zero h0)
  · exact .inr h0
theorem res_sys {H H0 Hn : Heap} {k lo : Nat} {q : Int} {z : Value} {cs : List Bk} (hp0 : H <+: H0) (hsm : Same (fun j => H.length <= j) H0 Hn) (hr : Hn[k]? = some ⟨[.int .i64 0, .slice none 0 0], true, true⟩) (hk : H.length <= k) (hkl : k < H0.length) (hz : BIn lo Hn z cs) (hlo : H0.length <= lo) :
    storeAt Hn k 0 [.int .i64 q, z] = some (Hn.set k ⟨[.int .i64 q, z], true, true⟩) /\ cellsAt (Hn.set k ⟨[.int .i64 q, z], true, true⟩) k 0 2 = some [.int .i64 q, z] /\ H <+: Hn.set k ⟨[.int .i64 q, z], true, true⟩ /\
      BIn lo (Hn.set k ⟨[.int .i64 q, z], true, true⟩) z cs /\ Same (fun j => j = k) Hn (Hn.set k ⟨[.int .i64 q, z], true, true⟩) := by
  obtain ⟨r0, r1, r2, r3⟩ := sys_cells hr rfl
  have hs4 : Same (fun j => j = k) Hn (Hn.set k ⟨[.int .i64 q, z], true, true⟩) := same_set2
  have hr4 : (Hn.set k ⟨[.int .i64 q, z], true, true⟩)[k]? = some ⟨[.int .i64 q, z], true, true⟩ := List.getElem?_set_self (List.getElem?_eq_some_iff.1 hr).1
  refine ⟨r3 q z hz.one, (sys_cells hr4 hz.one).1, ?_, hz.keep hs4 (fun j hj e => by omega), hs4⟩
  exact Same.prefix (S := fun j => H.length <= j) (((Same.of_prefix hp0).trans hsm).trans (hs4.mono fun j _ e => by omega)) (fun j hj e => by omega)

theorem near_ok {L s : Nat} {H : Heap} (hs : Src L s H) {m : Int} (hm : -1 <= m /\ m <= 1000) (Post : Value -> Heap -> Prop)
    (h : ∀ (H' : Heap) (r : Int), Same (fun j => j = s) H H' -> Src L s H' -> In64 r -> Post (.int .i64 r) H') :
    ACalls Tryz.prog 83 [.pointer (some ⟨s, 0, none⟩), .int .i64 m] H Post := by
  have hslt := hs.lt
  have wm : IntKind.i64.wrap (m + 1) = m + 1 := i64w (by omega) (by omega)
  refine acalls_vc (rs := [.tmp 4]) Tryz.func83 rfl rfl Tryz.ntmps83 rfl rfl ?_
  simp (maxSteps := 1000000) [go_sem]
  refine next_ok hs _ ?_
  intro H1 k hs1 hl1 hS1 hk0 hk1
  by_cases c : k = 0
  · subst c
    simp (maxSteps := 1000000) [go_sem, wm]
    have hp2 : H1 <+: H1 ++ [⟨[.int .i64 (-1), .int .i64 (m + 1), .int .i64 1099511627776, .int .i64 (-4611686018427387904)], true, true⟩] := List.prefix_append _ _
    have hi2 : (H1 ++ [(⟨[.int .i64 (-1), .int .i64 (m + 1), .int .i64 1099511627776, .int .i64 (-4611686018427387904)], true, true⟩ : Blk)])[H1.length]? = some ⟨ints [-1, m + 1, 1099511627776, -4611686018427387904], true, true⟩ := by simp [ints]
    generalize H1 ++ [(⟨[.int .i64 (-1), .int .i64 (m + 1), .int .i64 1099511627776, .int .i64 (-4611686018427387904)], true, true⟩ : Blk)] = H2 at hp2 hi2 ⊢
    refine pick_ok (hS1.pre hp2) (xs := [-1, m + 1, 1099511627776, -4611686018427387904]) hi2 (by omega) (by simp) (by simp) _ ?_
    intro H3 x hs3 hl3 hS3 hx
    simp (maxSteps := 1000000) [go_sem]
    refine h H3 x ((hs1.trans (Same.of_prefix hp2)).trans hs3) hS3 ?_
    simp only [List.mem_cons, List.not_mem_nil, or_false] at hx
    unfold In64; omega
  · have b0 : (k == 0) = false := by simpa using c
    simp (maxSteps := 1000000) [go_sem, b0, wm]
    refine next_ok hS1 _ ?_
    intro H2 r hs2 hl2 hS2 hr0 hr1
    simp (maxSteps := 1000000) [go_sem]
    exact h H2 r (hs1.trans hs2) hS2 (by unfold In64; omega)

theorem drawSet_ok {L s : Nat} {H : Heap} (hs : Src L s H) {v : Nat} (hv : v <= 15) (Post : Value -> Heap -> Prop)
    (h : ∀ (H' : Heap) (w : Value) (xs : List Int), Same (fun j => j = s) H H' -> Src L s H' -> NIn H.length H' w xs -> xs.length <= 16 -> (∀ x ∈ xs, In64 x) -> Post w H') :
    ACalls Tryz.prog 86 [.pointer (some ⟨s, 0, none⟩), .int .i64 v] H Post := by
  have hslt := hs.lt
  have hsL := hs.1
  refine acalls_vc (rs := [.tmp 4]) Tryz.func86 rfl rfl Tryz.ntmps86 rfl rfl ?_
  simp (maxSteps := 1000000) [go_sem]
  have hp0 : H <+: H ++ [⟨[], true, true⟩, ⟨[.int .i64 1, .int .i64 2, .int .i64 3], true, true⟩] := List.prefix_append _ _
  have he0 : (H ++ [(⟨[], true, true⟩ : Blk), ⟨[.int .i64 1, .int .i64 2, .int .i64 3], true, true⟩])[H.length]? = some ⟨[], true, true⟩ := by simp
  have hi0 : (H ++ [(⟨[], true, true⟩ : Blk), ⟨[.int .i64 1, .int .i64 2, .int .i64 3], true, true⟩])[H.length + 1]? = some ⟨ints [1, 2, 3], true, true⟩ := by simp [ints]
  generalize H ++ [(⟨[], true, true⟩ : Blk), ⟨[.int .i64 1, .int .i64 2, .int .i64 3], true, true⟩] = H0 at hp0 he0 hi0 ⊢
  refine pick_ok (hs.pre hp0) (xs := [1, 2, 3]) hi0 (by omega) (by simp) (by simp) _ ?_
  intro H1 few hs1 hl1 hS1 hf
  have he1 := hs1.get he0 (by omega)
  have hsm1 : Same (fun j => j = s) H H1 := (Same.of_prefix hp0).trans hs1
  simp (maxSteps := 1000000) [go_sem]
  refine AWp.loopVc (St := Nat × Nat × List Int) (fun q => [(0, .pointer (some ⟨s, 0, none⟩)), (1, .int .i64 v), (5, lv 1 q.2.1 0 q.2.2.length), (6, .int .i64 few), (7, .int .i64 q.1)])
    (fun q H' => q.1 <= v /\ q.2.2.length <= q.1 /\ OL 1 H' q.2.1 (ints q.2.2) q.2.2.length /\ H.length <= q.2.1 /\ (∀ x ∈ q.2.2, In64 x) /\ Same (fun j => j = s) H H' /\ Src L s H') (fun q => v - q.1) (0, H.length, []) ?_ ?_ ?_
  · simp [upF, Fr.get, Up.refl, Up.ex0]
  · exact ⟨by omega, by simp, ⟨by simp [ints], .inr (by simpa [ints] using he1)⟩, Nat.le_refl _, by simp, hsm1, hS1⟩
  · rintro K ⟨k, id, xs⟩ H2 ⟨hk, hxl, hol, hid, hxs, hsm, hS⟩ hK
    simp only at hk hxl hol hid hxs
    by_cases hkv : k < v
    · have hw_k : IntKind.i64.wrap ((k : Int) + 1) = (k : Int) + 1 := i64w (by omega) (by omega)
      simp (maxSteps := 1000000) [go_sem, hkv]
      refine next_ok hS _ ?_
      intro H3 r hs3 hl3 hS3 hr0 hr1
      have hol3 := hol.keep hs3 (by omega)
      have hle := hsm.1
      by_cases hrf : r < few
      · obtain ⟨hsrc, H4, hap, hol4, hs4, hl4⟩ := hol3.push (xs := [.int .i64 (k : Int)]) (by omega) rfl
        simp (maxSteps := 1000000) [go_sem, hrf, hsrc, hap, hw_k]
        have e : ints xs ++ [.int .i64 (k : Int)] = ints (xs ++ [(k : Int)]) := by simp [ints]
        rw [e] at hol4
        refine andK_intro (by omega) (hK (k + 1, H3.length + 1, xs ++ [(k : Int)]) _ _ (by simp only; omega) (by simp [upF, Fr.get, Up.refl]) ⟨by simp only; omega, by simp; omega, by simpa using hol4, by simp only; omega, fun x hx => ?_, sameUp (hsm.trans hs3) hs4 (fun j e => by omega), hS3.keep hs4 (fun j e => ⟨by omega, by omega⟩)⟩)
        rcases List.mem_append.1 hx with hx | hx
        · exact hxs x hx
        · simp at hx; subst hx; unfold In64; omega
      · simp (maxSteps := 1000000) [go_sem, hrf, hw_k]
        exact hK (k + 1, id, xs) _ _ (by simp only; omega) (by simp [upF, Fr.get, Up.refl]) ⟨by simp only; omega, by simp only; omega, hol3, hid, hxs, hsm.trans hs3, hS3⟩
    · simp (maxSteps := 1000000) [go_sem, hkv]
      refine next_ok hS _ ?_
      intro H3 r hs3 hl3 hS3 hr0 hr1
      have hol3 := hol.keep hs3 (by omega)
      have hle := hsm.1
      by_cases c : r = 0
      · subst c
        simp (maxSteps := 1000000) [go_sem]
        have hp4 : H3 <+: H3 ++ [⟨[.int .i64 0, .int .i64 (-1), .int .i64 v], true, true⟩] := List.prefix_append _ _
        have hi4 : (H3 ++ [(⟨[.int .i64 0, .int .i64 (-1), .int .i64 v], true, true⟩ : Blk)])[H3.length]? = some ⟨ints [0, -1, (v : Int)], true, true⟩ := by simp [ints]
        generalize H3 ++ [(⟨[.int .i64 0, .int .i64 (-1), .int .i64 v], true, true⟩ : Blk)] = H4 at hp4 hi4 ⊢
        refine pick_ok (hS3.pre hp4) (xs := [0, -1, (v : Int)]) hi4 (by omega) (by simp) (by simp) _ ?_
        intro H5 y hs5 hl5 hS5 hy
        have hol5 := (hol3.keep (S := fun _ => False) (Same.of_prefix hp4) (fun e => e)).keep hs5 (by omega)
        obtain ⟨hsrc, H6, hap, hol6, hs6, hl6⟩ := hol5.push (xs := [.int .i64 y]) (by omega) rfl
        have e : ints xs ++ [.int .i64 y] = ints (xs ++ [y]) := by simp [ints]
        rw [e] at hol6
        simp (maxSteps := 1000000) [go_sem, hsrc, hap]
        refine andK_intro (by omega) ?_
        have hle5 : H.length <= H5.length := by have := hp4.length_le; omega
        have fin := h H6 (lv 1 (H5.length + 1) 0 (xs.length + 1)) (xs ++ [y]) (sameUp (((hsm.trans hs3).trans (Same.of_prefix hp4)).trans hs5) hs6 (fun j e => by omega)) (hS5.keep hs6 (fun j e => ⟨by omega, by omega⟩)) (ol_nin hol6 (by simp) (by omega) (by omega)) (by simp; omega) (fun x hx => by
          rcases List.mem_append.1 hx with hx | hx
          · exact hxs x hx
          · simp at hx hy; subst hx; unfold In64; omega)
        exact fin
      · have b0 : (r == 0) = false := by simpa using c
        simp (maxSteps := 1000000) [go_sem, b0]
        exact h H3 _ xs (hsm.trans hs3) hS3 (ol_nin hol3 rfl hid (by omega)) (by omega) hxs

theorem drawFree_ok {H : Heap} {u : Value} {xs : List Int} (hu : BytesAt H u xs) (Post : Value -> Heap -> Prop)
    (h : ∀ (H' : Heap) (q : Int) (w : Value) (cs : List Bk), H <+: H' -> BIn H.length H' w cs -> Wild q cs -> Post (sysV q w) H') :
    ACalls Tryz.prog 34 [u] H Post := by
  refine acalls_vc (rs := [.cell 2 26]) Tryz.func34 rfl rfl Tryz.ntmps34 rfl rfl ?_
  simp (maxSteps := 1000000) [go_sem]
  have hp0 : H <+: H ++ [⟨[.int .i64 0, .slice none 0 0], true, true⟩] := List.prefix_append _ _
  have hr0 : (H ++ [(⟨[.int .i64 0, .slice none 0 0], true, true⟩ : Blk)])[H.length]? = some ⟨[.int .i64 0, .slice none 0 0], true, true⟩ := by simp
  have hl0 : (H ++ [(⟨[.int .i64 0, .slice none 0 0], true, true⟩ : Blk)]).length = H.length + 1 := by simp
  generalize H ++ [(⟨[.int .i64 0, .slice none 0 0], true, true⟩ : Blk)] = H0 at hp0 hr0 hl0 ⊢
  refine from_ok (hu.pre hp0) _ ?_
  intro H1 hp1 hl1 hS1
  simp (maxSteps := 1000000) [go_sem]
  refine spoil_ok hS1 _ ?_
  intro H2 q z cs hs2 hS2 hz hwd
  have hsm : Same (fun j => j = H0.length) H0 H2 := (Same.of_prefix hp1).trans hs2
  obtain ⟨f1, f2, f3, f4, f5⟩ := res_sys (q := q) hp0 (hsm.mono fun j _ e => by omega) (hsm.get hr0 (by omega)) (Nat.le_refl _) (by omega) hz (by omega)
  simp (maxSteps := 1000000) [go_sem, sysV, f1, f2]
  exact h _ q z cs f3 (f4.wider (by omega)) hwd

theorem drawTake_ok {H : Heap} {u : Value} {xs : List Int} (hu : BytesAt H u xs) (Post : Value -> Heap -> Prop)
    (h : ∀ (H' : Heap) (q : Int) (w : Value) (cs : List Bk) (i : Int), H <+: H' -> BIn H.length H' w cs -> Wild q cs -> In64 i -> Post (.tuple #[sysV q w, .int .i64 i]) H') :
    ACalls Tryz.prog 28 [u] H Post := by
  refine acalls_vc (rs := [.cell 2 26, .tmp 3]) Tryz.func28 rfl rfl Tryz.ntmps28 rfl rfl ?_
  simp (maxSteps := 1000000) [go_sem]
  have hp0 : H <+: H ++ [⟨[.int .i64 0, .slice none 0 0], true, true⟩] := List.prefix_append _ _
  have hr00 : (H ++ [(⟨[.int .i64 0, .slice none 0 0], true, true⟩ : Blk)])[H.length]? = some ⟨[.int .i64 0, .slice none 0 0], true, true⟩ := by simp
  have hl0 : (H ++ [(⟨[.int .i64 0, .slice none 0 0], true, true⟩ : Blk)]).length = H.length + 1 := by simp
  generalize H ++ [(⟨[.int .i64 0, .slice none 0 0], true, true⟩ : Blk)] = H0 at hp0 hr00 hl0 ⊢
  refine from_ok (hu.pre hp0) _ ?_
  intro H1 hp1 hl1 hS1
  simp (maxSteps := 1000000) [go_sem]
  refine draw_ok hS1 _ ?_
  intro H2 p w bs hs2 hS2 hw hd hlb
  have onew := hw.one
  have hpp := hd.pts
  have hle2 := hs2.1
  have hx3 : (H2 ++ [(⟨[.int .i64 p, w], true, true⟩ : Blk)])[H2.length]? = some ⟨[.int .i64 p, w], true, true⟩ := by simp
  have hp3 : H2 <+: H2 ++ [⟨[.int .i64 p, w], true, true⟩] := List.prefix_append _ _
  have hl3 : (H2 ++ [(⟨[.int .i64 p, w], true, true⟩ : Blk)]).length = H2.length + 1 := by simp
  simp (maxSteps := 1000000) [go_sem, sysV, onew]
  generalize H2 ++ [(⟨[.int .i64 p, w], true, true⟩ : Blk)] = H3 at hx3 hp3 hl3 ⊢
  have hw3 := hw.pre hp3
  have hS3 := hS2.pre hp3
  have hsm3 : Same (fun j => j = H0.length) H0 H3 := ((Same.of_prefix hp1).trans hs2).trans (Same.of_prefix hp3)
  have hr30 := hsm3.get hr00 (by omega)
  obtain ⟨a0, a1, a2, a3⟩ := sys_cells hx3 onew
  obtain ⟨wi, rfl⟩ : ∃ i, w = lv 3 i 0 bs.length := by obtain ⟨_, id, ⟨e, _, _⟩, _⟩ := hw; exact ⟨id, e⟩
  have wl : IntKind.i64.wrap ((bs.length : Int) - 1) = (bs.length : Int) - 1 := i64w (by omega) (by omega)
  try simp (maxSteps := 1000000) [go_sem, a2, wl]
  refine near_ok hS3 (by omega) _ ?_
  intro H4 i hs4 hS4 hi
  have hx4 := hs4.get hx3 (by omega)
  obtain ⟨b0, b1, b2, b3⟩ := sys_cells hx4 onew
  simp (maxSteps := 1000000) [go_sem, b0]
  refine bad_ok hS4 (hw3.keep hs4 (fun j hj e => by omega)) (by omega) (by have := hs4.1; omega) hd _ ?_
  intro H5 q z cs hs5 hS5 hz hwd
  have hsm := (hsm3.trans hs4).trans hs5
  obtain ⟨f1, f2, f3, f4, f5⟩ := res_sys (q := q) hp0 (hsm.mono fun j _ e => by omega) (hs5.get (hs4.get hr30 (by omega)) (by omega)) (Nat.le_refl _) (by omega) hz (by omega)
  simp (maxSteps := 1000000) [go_sem, sysV, f1, f2]
  exact h _ q z cs i f3 (f4.wider (by omega)) hwd hi

theorem drawOn_ok {H : Heap} {u : Value} {xs : List Int} (hu : BytesAt H u xs) (Post : Value -> Heap -> Prop)
    (h : ∀ (H' : Heap) (q : Int) (w z : Value) (cs : List Bk) (ys : List Int), H <+: H' -> BIn H.length H' w cs -> Wild q cs -> NIn H.length H' z ys -> ys.length <= 300 -> (∀ y ∈ ys, In64 y) -> Post (.tuple #[sysV q w, z]) H') :
    ACalls Tryz.prog 30 [u] H Post := by
  refine acalls_vc (rs := [.cell 2 26, .tmp 3]) Tryz.func30 rfl rfl Tryz.ntmps30 rfl rfl ?_
  simp (maxSteps := 1000000) [go_sem]
  have hp0 : H <+: H ++ [⟨[.int .i64 0, .slice none 0 0], true, true⟩] := List.prefix_append _ _
  have hr00 : (H ++ [(⟨[.int .i64 0, .slice none 0 0], true, true⟩ : Blk)])[H.length]? = some ⟨[.int .i64 0, .slice none 0 0], true, true⟩ := by simp
  have hl0 : (H ++ [(⟨[.int .i64 0, .slice none 0 0], true, true⟩ : Blk)]).length = H.length + 1 := by simp
  generalize H ++ [(⟨[.int .i64 0, .slice none 0 0], true, true⟩ : Blk)] = H0 at hp0 hr00 hl0 ⊢
  refine from_ok (hu.pre hp0) _ ?_
  intro H1 hp1 hl1 hS1
  simp (maxSteps := 1000000) [go_sem]
  refine draw_ok hS1 _ ?_
  intro H2 p w bs hs2 hS2 hw hd hlb
  have onew := hw.one
  have hpp := hd.pts
  have hle2 := hs2.1
  have hx3 : (H2 ++ [(⟨[.int .i64 p, w], true, true⟩ : Blk)])[H2.length]? = some ⟨[.int .i64 p, w], true, true⟩ := by simp
  have hp3 : H2 <+: H2 ++ [⟨[.int .i64 p, w], true, true⟩] := List.prefix_append _ _
  have hl3 : (H2 ++ [(⟨[.int .i64 p, w], true, true⟩ : Blk)]).length = H2.length + 1 := by simp
  simp (maxSteps := 1000000) [go_sem, sysV, onew]
  generalize H2 ++ [(⟨[.int .i64 p, w], true, true⟩ : Blk)] = H3 at hx3 hp3 hl3 ⊢
  have hw3 := hw.pre hp3
  have hS3 := hS2.pre hp3
  have hsm3 : Same (fun j => j = H0.length) H0 H3 := ((Same.of_prefix hp1).trans hs2).trans (Same.of_prefix hp3)
  have hr30 := hsm3.get hr00 (by omega)
  obtain ⟨a0, a1, a2, a3⟩ := sys_cells hx3 onew
  try simp (maxSteps := 1000000) [go_sem, a1]
  refine drawSet_ok hS3 (by omega) _ ?_
  intro H4 y ys hs4 hS4 hy hyl hy64
  have hx4 := hs4.get hx3 (by omega)
  obtain ⟨b0, b1, b2, b3⟩ := sys_cells hx4 onew
  simp (maxSteps := 1000000) [go_sem, b0]
  refine bad_ok hS4 (hw3.keep hs4 (fun j hj e => by omega)) (by omega) (by have := hs4.1; omega) hd _ ?_
  intro H5 q z cs hs5 hS5 hz hwd
  have hsm := (hsm3.trans hs4).trans hs5
  obtain ⟨f1, f2, f3, f4, f5⟩ := res_sys (q := q) hp0 (hsm.mono fun j _ e => by omega) (hs5.get (hs4.get hr30 (by omega)) (by omega)) (Nat.le_refl _) (by omega) hz (by omega)
  simp (maxSteps := 1000000) [go_sem, sysV, f1, f2]
  exact h _ q z y cs ys f3 (f4.wider (by omega)) hwd (((hy.keep hs5 (fun j hj e => by omega)).keep f5 (fun j hj e => by omega)).wider (by omega)) (by omega) hy64

end Go.Proofs.YtfnegaedkomcgaaGreat
end

section
namespace Go.Proofs.YtfnegaedkomcgaaGreat
open Go.Ab

theorem BIn.upTo {lo : Nat} {H : Heap} {u : Value} {bs : List Bk} (h : BIn lo H u bs) : BlocksIn lo H.length H u bs := by
  obtain ⟨b, id, ⟨e, hat, hsz⟩, hs⟩ := h
  refine ⟨id, ⟨e, hat, hsz⟩, fun hne => ⟨(hs hne).1, ?_⟩⟩
  exact (List.getElem?_eq_some_iff.1 (hat.resolve_left hne)).1

theorem drawRenumber_ok {H : Heap} {u : Value} {xs : List Int} (hu : BytesAt H u xs) (Post : Value -> Heap -> Prop)
    (h : ∀ (H' : Heap) (q : Int) (w z : Value) (cs : List Bk) (ys : List Int), H <+: H' -> BIn H.length H' w cs -> Wild q cs -> NIn H.length H' z ys -> ys.length <= 300 -> (∀ y ∈ ys, In64 y) -> Post (.tuple #[sysV q w, z]) H') :
    ACalls Tryz.prog 22 [u] H Post := by
  refine acalls_vc (rs := [.cell 2 26, .tmp 3]) Tryz.func22 rfl rfl Tryz.ntmps22 rfl rfl ?_
  simp (maxSteps := 1000000) [go_sem]
  have hp0 : H <+: H ++ [⟨[.int .i64 0, .slice none 0 0], true, true⟩] := List.prefix_append _ _
  have hr00 : (H ++ [(⟨[.int .i64 0, .slice none 0 0], true, true⟩ : Blk)])[H.length]? = some ⟨[.int .i64 0, .slice none 0 0], true, true⟩ := by simp
  have hl0 : (H ++ [(⟨[.int .i64 0, .slice none 0 0], true, true⟩ : Blk)]).length = H.length + 1 := by simp
  generalize H ++ [(⟨[.int .i64 0, .slice none 0 0], true, true⟩ : Blk)] = H0 at hp0 hr00 hl0 ⊢
  refine from_ok (hu.pre hp0) _ ?_
  intro H1 hp1 hl1 hS1
  simp (maxSteps := 1000000) [go_sem]
  refine draw_ok hS1 _ ?_
  intro H2 p w bs hs2 hS2 hw hd hlb
  have onew := hw.one
  have hpp := hd.pts
  have hle2 := hs2.1
  have hx3 : (H2 ++ [(⟨[.int .i64 p, w], true, true⟩ : Blk)])[H2.length]? = some ⟨[.int .i64 p, w], true, true⟩ := by simp
  have hp3 : H2 <+: H2 ++ [⟨[.int .i64 p, w], true, true⟩] := List.prefix_append _ _
  have hl3 : (H2 ++ [(⟨[.int .i64 p, w], true, true⟩ : Blk)]).length = H2.length + 1 := by simp
  simp (maxSteps := 1000000) [go_sem, sysV, onew]
  generalize H2 ++ [(⟨[.int .i64 p, w], true, true⟩ : Blk)] = H3 at hx3 hp3 hl3 ⊢
  have hw3 := hw.pre hp3
  have hS3 := hS2.pre hp3
  have hsm3 : Same (fun j => j = H0.length) H0 H3 := ((Same.of_prefix hp1).trans hs2).trans (Same.of_prefix hp3)
  have hr30 := hsm3.get hr00 (by omega)
  obtain ⟨a0, a1, a2, a3⟩ := sys_cells hx3 onew
  try simp (maxSteps := 1000000) [go_sem, a1]
  refine drawOrder_ok hS3 (by omega) _ ?_
  intro H4 ov ord hs4 hS4 hI4 hO4
  obtain ⟨oid, ⟨rfl, hoat, hosz⟩, hosp⟩ := hI4
  have hol : ord.length = p := by have := hO4.1; omega
  have hob : H4[oid]? = some ⟨ints ord, true, true⟩ := hoat.resolve_left (by intro e; rw [e] at hol; simp at hol; omega)
  obtain ⟨hosp1, hosp2⟩ := hosp (by intro e; rw [e] at hol; simp at hol; omega)
  have hle4 := hs4.1
  have ho64 : ∀ y ∈ ord, In64 y := fun y hy => by have := hO4.2.2 y hy; unfold In64; omega
  rw [hol]
  simp (maxSteps := 1000000) [go_sem]
  refine next_ok hS4 _ ?_
  intro H5 k hs5 hl5 hS5 hk0 hk1
  have hx5 := hs5.get (hs4.get hx3 (by omega)) (by omega)
  have hr5 := hs5.get (hs4.get hr30 (by omega)) (by omega)
  have ho5 := hs5.get hob (by omega)
  have hw5 := ((hw.upTo.pre hp3).keep hs4 (fun j hj e => by have := hj.1; omega)).keep hs5 (fun j hj e => by have := hj.1; omega)
  have hsm5 := (hsm3.trans hs4).trans hs5
  have hle5 := hs5.1
  have hp3le := hp3.length_le
  by_cases c0 : k = 0
  · subst c0
    have hol5 : OL 1 H5 oid (ints ord) p := ⟨by rw [ints_length, hol]; omega, .inr ho5⟩
    obtain ⟨hsrc, H6, hap, hol6, hs6, hl6⟩ := hol5.push (xs := [.int .i64 0]) (by omega) rfl
    have e : ints ord ++ [.int .i64 0] = ints (ord ++ [0]) := by simp [ints]
    rw [e] at hol6
    have hxN := hs6.get hx5 (by omega)
    have hrN := hs6.get hr5 (by omega)
    have hwN : BIn H1.length H6 w bs := ⟨_, hw5.keep hs6 (fun j hj e => by have := hj.2; omega)⟩
    have hSN := hS5.keep hs6 (fun j e => ⟨by omega, by omega⟩)
    have hleN : H1.length <= H6.length := by have := hs6.1; omega
    have hsmN : Same (fun j => j = H0.length) H0 H6 := sameUp hsm5 hs6 (fun j e => by omega)
    have hyN := ol_nin (lo := H0.length + 1) hol6 (by simp [hol]) (by omega) (by omega)
    have hylN : (ord ++ [0]).length <= 300 := by simp; omega
    have hy64N : ∀ y ∈ ord ++ [0], In64 y := fun y hy => by
      rcases List.mem_append.1 hy with hy | hy
      · exact ho64 y hy
      · simp at hy; subst hy; unfold In64; omega
    obtain ⟨b0, b1, b2, b3⟩ := sys_cells hxN onew
    simp (maxSteps := 1000000) [go_sem, hsrc, hap, b0]
    refine andK_intro (by omega) ?_
    try simp (maxSteps := 1000000) [go_sem, b0]
    refine bad_ok hSN hwN (by omega) hleN hd _ ?_
    intro H9 q z9 cs hs9 hS9 hz9 hwd
    have hsm := hsmN.trans hs9
    obtain ⟨f1, f2, f3, f4, f5⟩ := res_sys (q := q) hp0 (hsm.mono fun j _ e => by omega) (hs9.get hrN (by omega)) (Nat.le_refl _) (by omega) hz9 (by omega)
    simp (maxSteps := 1000000) [go_sem, sysV, f1, f2]
    exact h _ q z9 _ cs _ f3 (f4.wider (by omega)) hwd (((hyN.keep hs9 (fun j hj e => by omega)).keep f5 (fun j hj e => by omega)).wider (by omega)) hylN hy64N
  · have e0 : (k == 0) = false := by simpa using c0
    by_cases c1 : k = 1
    · subst c1
      obtain ⟨b0, b1, b2, b3⟩ := sys_cells hx5 onew
      have hoh : Holds H5 oid (ints ord) := ⟨true, ho5⟩
      obtain ⟨y1, o1, hy1⟩ := ord_at hO4 (i := 1) (by omega)
      have l1 := hoh.cell (o := 1) (v := .int .i64 y1) (by simp only [ints_get, o1]; rfl)
      have q1 : 1 < p := by omega
      have q1' : (1 : Int) < p := by omega
      have q0 : 0 < p := by omega
      simp (maxSteps := 1000000) [go_sem]
      refine AWp.draw mixed [(0, false), (1, false), (2, false), (3, false), (4, false), (5, false), (6, false), (7, false), (8, false), (9, false), (10, false)] (by kernel_rfl) ?_
      simp (maxSteps := 1000000) [go_sem, b1, l1, q1, q1', q0]
      try refine andK_intro (by omega) ?_
      have hp6 : H5 <+: H5 ++ [⟨[.int .i64 (-1), .int .i64 p, .int .i64 y1], true, true⟩] := List.prefix_append _ _
      have hi6 : (H5 ++ [(⟨[.int .i64 (-1), .int .i64 p, .int .i64 y1], true, true⟩ : Blk)])[H5.length]? = some ⟨ints [-1, (p : Int), (y1 : Int)], true, true⟩ := by simp [ints]
      generalize H5 ++ [(⟨[.int .i64 (-1), .int .i64 p, .int .i64 y1], true, true⟩ : Blk)] = H6 at hp6 hi6 ⊢
      refine pick_ok (hS5.pre hp6) (xs := [-1, (p : Int), (y1 : Int)]) hi6 (by have := hsm5.1; omega) (by simp) (by simp) _ ?_
      intro H7 x hs7 hl7 hS7 hx
      have hx64 : In64 x := by simp at hx; unfold In64; omega
      have ho7 := hs7.get (pget hp6 ho5) (by omega)
      have hlt7 := (List.getElem?_eq_some_iff.1 ho7).1
      have st : storeAt H7 oid 0 [.int .i64 x] = some (H7.set oid ⟨ints (ord.set 0 x), true, true⟩) := by
        rw [storeAt_of ho7 rfl rfl (by rw [ints_length, List.length_singleton]; omega) (by simp [one_int]), over_one (by rw [ints_length]; omega), ints_set]
      have hs8 : Same (fun j => j = oid) H7 (H7.set oid ⟨ints (ord.set 0 x), true, true⟩) := same_set2
      have ho8 : (H7.set oid ⟨ints (ord.set 0 x), true, true⟩)[oid]? = some ⟨ints (ord.set 0 x), true, true⟩ := List.getElem?_set_self hlt7
      have hxN := hs8.get (hs7.get (pget hp6 hx5) (by omega)) (by omega)
      have hrN := hs8.get (hs7.get (pget hp6 hr5) (by omega)) (by omega)
      have hwN : BIn H1.length (H7.set oid ⟨ints (ord.set 0 x), true, true⟩) w bs := ⟨_, ((hw5.pre hp6).keep hs7 (fun j hj e => by have := hj.1; omega)).keep hs8 (fun j hj e => by have := hj.2; omega)⟩
      have hSN := hS7.keep hs8 (fun j e => ⟨by omega, by omega⟩)
      have hleN : H1.length <= (H7.set oid ⟨ints (ord.set 0 x), true, true⟩).length := by have := hs8.1; have := hs7.1; have := hp6.length_le; omega
      have hsmN : Same (fun j => j = H0.length) H0 (H7.set oid ⟨ints (ord.set 0 x), true, true⟩) := sameUp ((hsm5.trans (Same.of_prefix hp6)).trans hs7) hs8 (fun j e => by omega)
      have hyN : NIn (H0.length + 1) (H7.set oid ⟨ints (ord.set 0 x), true, true⟩) (lv 1 oid 0 p) (ord.set 0 x) := ol_nin ⟨by rw [ints_length, List.length_set, hol]; omega, .inr ho8⟩ (by rw [List.length_set, hol]) (by omega) (by omega)
      have hylN : (ord.set 0 x).length <= 300 := by rw [List.length_set]; omega
      have hy64N : ∀ y ∈ ord.set 0 x, In64 y := fun y hy => by
        rcases List.mem_or_eq_of_mem_set hy with hy | rfl
        · exact ho64 y hy
        · exact hx64
      generalize H7.set oid ⟨ints (ord.set 0 x), true, true⟩ = H8 at *
      obtain ⟨b0, b1, b2, b3⟩ := sys_cells hxN onew
      simp (maxSteps := 1000000) [go_sem, q0, st, b0]
      refine bad_ok hSN hwN (by omega) hleN hd _ ?_
      intro H9 q z9 cs hs9 hS9 hz9 hwd
      have hsm := hsmN.trans hs9
      obtain ⟨f1, f2, f3, f4, f5⟩ := res_sys (q := q) hp0 (hsm.mono fun j _ e => by omega) (hs9.get hrN (by omega)) (Nat.le_refl _) (by omega) hz9 (by omega)
      simp (maxSteps := 1000000) [go_sem, sysV, f1, f2]
      exact h _ q z9 _ cs _ f3 (f4.wider (by omega)) hwd (((hyN.keep hs9 (fun j hj e => by omega)).keep f5 (fun j hj e => by omega)).wider (by omega)) hylN hy64N
    · have e1 : (k == 1) = false := by simpa using c1
      have hxN := hx5
      have hrN := hr5
      have hwN : BIn H1.length H5 w bs := ⟨_, hw5⟩
      have hSN := hS5
      have hsmN := hsm5
      have hleN : H1.length <= H5.length := by omega
      have hyN : NIn (H0.length + 1) H5 (lv 1 oid 0 p) ord := ol_nin ⟨by rw [ints_length, hol]; omega, .inr ho5⟩ hol (by omega) (by omega)
      have hylN : ord.length <= 300 := by omega
      have hy64N := ho64
      obtain ⟨b0, b1, b2, b3⟩ := sys_cells hxN onew
      simp (maxSteps := 1000000) [go_sem, e0, e1, b0]
      refine bad_ok hSN hwN (by omega) hleN hd _ ?_
      intro H9 q z9 cs hs9 hS9 hz9 hwd
      have hsm := hsmN.trans hs9
      obtain ⟨f1, f2, f3, f4, f5⟩ := res_sys (q := q) hp0 (hsm.mono fun j _ e => by omega) (hs9.get hrN (by omega)) (Nat.le_refl _) (by omega) hz9 (by omega)
      simp (maxSteps := 1000000) [go_sem, sysV, f1, f2]
      exact h _ q z9 _ cs _ f3 (f4.wider (by omega)) hwd (((hyN.keep hs9 (fun j hj e => by omega)).keep f5 (fun j hj e => by omega)).wider (by omega)) hylN hy64N

end Go.Proofs.YtfnegaedkomcgaaGreat
end

section
namespace Go.Proofs.YtfnegaedkomcgaaGreat
open Go.Ab

theorem res_two {H H0 Hn : Heap} {lo : Nat} {q r : Int} {z y : Value} {cs ds : List Bk} (hp0 : H <+: H0) (hsm : Same (fun j => H.length <= j) H0 Hn) (hr : Hn[H.length]? = some ⟨[.int .i64 0, .slice none 0 0], true, true⟩) (ht : Hn[H.length + 1]? = some ⟨[.int .i64 0, .slice none 0 0], true, true⟩) (hl0 : H0.length = H.length + 2) (hz : BIn lo Hn z cs) (hy : BIn lo Hn y ds) (hlo : H0.length <= lo) :
    ∃ A B, storeAt Hn H.length 0 [.int .i64 q, z] = some A /\ storeAt A (H.length + 1) 0 [.int .i64 r, y] = some B /\ cellsAt B H.length 0 2 = some [.int .i64 q, z] /\ cellsAt B (H.length + 1) 0 2 = some [.int .i64 r, y] /\ H <+: B /\ BIn H.length B z cs /\ BIn H.length B y ds /\ (∀ k, k ≠ H.length -> A[k]? = Hn[k]?) := by
  have hs6 : Same (fun j => j = H.length) Hn (Hn.set H.length ⟨[.int .i64 q, z], true, true⟩) := same_set2
  have hr6 : (Hn.set H.length ⟨[.int .i64 q, z], true, true⟩)[H.length]? = some ⟨[.int .i64 q, z], true, true⟩ := List.getElem?_set_self (List.getElem?_eq_some_iff.1 hr).1
  have ht6 := hs6.get ht (by omega)
  have f1 := (sys_cells hr rfl).2.2.2 q z hz.one
  have fk : ∀ k, k ≠ H.length -> (Hn.set H.length ⟨[.int .i64 q, z], true, true⟩)[k]? = Hn[k]? := fun k hk => List.getElem?_set_ne (fun e => hk e.symm)
  generalize Hn.set H.length ⟨[.int .i64 q, z], true, true⟩ = H6 at *
  have hs7 : Same (fun j => j = H.length + 1) H6 (H6.set (H.length + 1) ⟨[.int .i64 r, y], true, true⟩) := same_set2
  have ht7 : (H6.set (H.length + 1) ⟨[.int .i64 r, y], true, true⟩)[H.length + 1]? = some ⟨[.int .i64 r, y], true, true⟩ := List.getElem?_set_self (List.getElem?_eq_some_iff.1 ht6).1
  have hr7 := hs7.get hr6 (by omega)
  have f2 := (sys_cells ht6 rfl).2.2.2 r y hy.one
  have hs57 : Same (fun j => j = H.length \/ j = H.length + 1) Hn (H6.set (H.length + 1) ⟨[.int .i64 r, y], true, true⟩) := (hs6.mono fun j _ e => .inl e).trans (hs7.mono fun j _ e => .inr e)
  refine ⟨H6, _, f1, f2, (sys_cells hr7 hz.one).1, (sys_cells ht7 hy.one).1, ?_, (hz.keep hs57 (fun j hj e => by omega)).wider (by omega), (hy.keep hs57 (fun j hj e => by omega)).wider (by omega), fk⟩
  exact Same.prefix (S := fun j => H.length <= j) (((Same.of_prefix hp0).trans hsm).trans (hs57.mono fun j _ e => by omega)) (fun j hj e => by omega)

theorem drawCommon_ok {H : Heap} {u : Value} {xs : List Int} (hu : BytesAt H u xs) (Post : Value -> Heap -> Prop)
    (h : ∀ (H' : Heap) (q r : Int) (w z : Value) (cs ds : List Bk), H <+: H' -> BIn H.length H' w cs -> Wild q cs -> BIn H.length H' z ds -> Wild r ds -> Post (.tuple #[sysV q w, sysV r z]) H') :
    ACalls Tryz.prog 32 [u] H Post := by
  refine acalls_vc (rs := [.cell 2 26, .cell 3 26]) Tryz.func32 rfl rfl Tryz.ntmps32 rfl rfl ?_
  simp (maxSteps := 1000000) [go_sem]
  have hp0 : H <+: H ++ [⟨[.int .i64 0, .slice none 0 0], true, true⟩, ⟨[.int .i64 0, .slice none 0 0], true, true⟩] := List.prefix_append _ _
  have hr00 : (H ++ [(⟨[.int .i64 0, .slice none 0 0], true, true⟩ : Blk), ⟨[.int .i64 0, .slice none 0 0], true, true⟩])[H.length]? = some ⟨[.int .i64 0, .slice none 0 0], true, true⟩ := by simp
  have hr01 : (H ++ [(⟨[.int .i64 0, .slice none 0 0], true, true⟩ : Blk), ⟨[.int .i64 0, .slice none 0 0], true, true⟩])[H.length + 1]? = some ⟨[.int .i64 0, .slice none 0 0], true, true⟩ := by simp
  have hl0 : (H ++ [(⟨[.int .i64 0, .slice none 0 0], true, true⟩ : Blk), ⟨[.int .i64 0, .slice none 0 0], true, true⟩]).length = H.length + 2 := by simp
  generalize H ++ [(⟨[.int .i64 0, .slice none 0 0], true, true⟩ : Blk), ⟨[.int .i64 0, .slice none 0 0], true, true⟩] = H0 at hp0 hr00 hr01 hl0 ⊢
  refine from_ok (hu.pre hp0) _ ?_
  intro H1 hp1 hl1 hS1
  simp (maxSteps := 1000000) [go_sem]
  refine draw_ok hS1 _ ?_
  intro H2 p w bs hs2 hS2 hw hd hlb
  have onew := hw.one
  have hpp := hd.pts
  have hle2 := hs2.1
  have hx3 : (H2 ++ [(⟨[.int .i64 p, w], true, true⟩ : Blk)])[H2.length]? = some ⟨[.int .i64 p, w], true, true⟩ := by simp
  have hp3 : H2 <+: H2 ++ [⟨[.int .i64 p, w], true, true⟩] := List.prefix_append _ _
  have hl3 : (H2 ++ [(⟨[.int .i64 p, w], true, true⟩ : Blk)]).length = H2.length + 1 := by simp
  simp (maxSteps := 1000000) [go_sem, sysV, onew]
  generalize H2 ++ [(⟨[.int .i64 p, w], true, true⟩ : Blk)] = H3 at hx3 hp3 hl3 ⊢
  have hw3 := hw.pre hp3
  have hS3 := hS2.pre hp3
  have hsm3 : Same (fun j => j = H0.length) H0 H3 := ((Same.of_prefix hp1).trans hs2).trans (Same.of_prefix hp3)
  have hr30 := hsm3.get hr00 (by omega)
  have hr31 := hsm3.get hr01 (by omega)
  obtain ⟨a0, a1, a2, a3⟩ := sys_cells hx3 onew
  refine switched_ok hS3 hw3 (by omega) (by omega) hd (by omega) _ ?_
  intro H4 v es hs4 hS4 hv hdv hlv
  have onev := hv.one
  have hle4 := hs4.1
  have hy5 : (H4 ++ [(⟨[.int .i64 p, v], true, true⟩ : Blk)])[H4.length]? = some ⟨[.int .i64 p, v], true, true⟩ := by simp
  have hp5 : H4 <+: H4 ++ [⟨[.int .i64 p, v], true, true⟩] := List.prefix_append _ _
  have hl5 : (H4 ++ [(⟨[.int .i64 p, v], true, true⟩ : Blk)]).length = H4.length + 1 := by simp
  simp (maxSteps := 1000000) [go_sem, sysV, onev]
  generalize H4 ++ [(⟨[.int .i64 p, v], true, true⟩ : Blk)] = H5 at hy5 hp5 hl5 ⊢
  refine next_ok (hS4.pre hp5) _ ?_
  intro H6 k hs6 hl6 hS6 hk0 hk1
  have hx6 := hs6.get (Same.get (S := fun _ => False) (Same.of_prefix hp5) (hs4.get hx3 (by omega)) (fun e => e)) (by omega)
  have hy6 := hs6.get hy5 (by omega)
  have hr6 := hs6.get (Same.get (S := fun _ => False) (Same.of_prefix hp5) (hs4.get hr30 (by omega)) (fun e => e)) (by omega)
  have ht6 := hs6.get (Same.get (S := fun _ => False) (Same.of_prefix hp5) (hs4.get hr31 (by omega)) (fun e => e)) (by omega)
  have hw6 := ((hw3.keep hs4 (fun j hj e => by omega)).pre hp5).keep hs6 (fun j hj e => by omega)
  have hv6 := (hv.pre hp5).keep hs6 (fun j hj e => by omega)
  have hsm6 := ((hsm3.trans hs4).trans (Same.of_prefix hp5)).trans hs6
  have hle6 := hs6.1
  by_cases c0 : k = 0
  · subst c0
    obtain ⟨b0, b1, b2, b3⟩ := sys_cells hx6 onew
    simp (maxSteps := 1000000) [go_sem]
    refine AWp.drawS (fun i => i ≠ H0.length /\ i < H6.length) mixed [(0, false), (1, false), (2, false), (3, false), (4, true), (5, false), (6, false)] (by kernel_rfl) ?_
    simp (maxSteps := 1000000) [go_sem, b0, b1]
    try refine andK_intro ⟨by omega, by omega⟩ ?_
    try refine andK_intro ⟨by omega, by omega⟩ ?_
    refine drawOrder_ok hS6 (by omega) _ ?_
    intro H7 ow ord hs7 hS7 hI7 hO7
    have hk7 : KeepS (fun i => i ≠ H0.length /\ i < H6.length) H6 H7 := fun i hi => hs7.2 i hi.2 hi.1
    simp (maxSteps := 1000000) [go_sem]
    refine andK_intro hk7 ?_
    have hw7 := hw6.keep hs7 (fun j hj e => by omega)
    try simp (maxSteps := 1000000) [go_sem]
    refine l01RenamedG_ok hw7.read hI7.read hpp (by omega) hd.good hO7 _ ?_
    intro H8 z hp8 hz
    have hx8 := Same.get (S := fun _ => False) (Same.of_prefix hp8) (hs7.get hx6 (by omega)) (fun e => e)
    have hy8 := Same.get (S := fun _ => False) (Same.of_prefix hp8) (hs7.get hy6 (by omega)) (fun e => e)
    have hr8 := Same.get (S := fun _ => False) (Same.of_prefix hp8) (hs7.get hr6 (by omega)) (fun e => e)
    have ht8 := Same.get (S := fun _ => False) (Same.of_prefix hp8) (hs7.get ht6 (by omega)) (fun e => e)
    have hle7 := hs7.1
    have hle8 := hp8.length_le
    have hs9 : Same (fun j => j = H4.length) H8 (H8.set H4.length ⟨[.int .i64 p, z], true, true⟩) := same_set2
    have b3' := (sys_cells hy8 onev).2.2.2 p z hz.one
    have hyN : (H8.set H4.length ⟨[.int .i64 p, z], true, true⟩)[H4.length]? = some ⟨[.int .i64 p, z], true, true⟩ := List.getElem?_set_self (List.getElem?_eq_some_iff.1 hy8).1
    have hxN := hs9.get hx8 (by omega)
    have hrN := hs9.get hr8 (by omega)
    have htN := hs9.get ht8 (by omega)
    have hwN := (hw7.pre hp8).past hy8 (noInts_sys hv6) hs9
    have hvN : BIn H1.length (H8.set H4.length ⟨[.int .i64 p, z], true, true⟩) z (sortB (bs.map (renB ord))) := ⟨_, (hz.keep hs9 (by rintro j ⟨e1, e2⟩ e; omega)).wider (by omega)⟩
    have hdN : Drawn p (sortB (bs.map (renB ord))) := ⟨hpp, by rw [sortB_len, List.length_map]; omega, fun x hx => by
      obtain ⟨y, hy, rfl⟩ := List.mem_map.1 ((sortB_perm _ _ rfl).mem_iff.1 hx)
      exact ren_good hO7 (hd.good y hy)⟩
    have hSN := (hS7.pre hp8).keep hs9 (fun j e => ⟨by omega, by omega⟩)
    have hsmN := sameUp ((hsm6.trans hs7).trans (Same.of_prefix hp8)) hs9 (fun j e => by omega)
    have hleN : H1.length <= (H8.set H4.length ⟨[.int .i64 p, z], true, true⟩).length := by have := hs9.1; omega
    generalize hen : H8.set H4.length ⟨[.int .i64 p, z], true, true⟩ = HN at *
    simp (maxSteps := 1000000) [go_sem, sysV, b3']
    generalize sortB (bs.map (renB ord)) = fs at *
    have hxl := (List.getElem?_eq_some_iff.1 hxN).1
    have hyl := (List.getElem?_eq_some_iff.1 hyN).1
    obtain ⟨b0, b1, b2, b3⟩ := sys_cells hxN onew
    have onez := hvN.one
    obtain ⟨d0, d1, d2, d3⟩ := sys_cells hyN onez
    refine AWp.drawS (fun i => i = H2.length \/ i = H4.length) mixed [(0, false), (1, false), (3, false), (4, false), (2, true), (5, false), (6, false), (7, false)] (by kernel_rfl) ?_
    simp (maxSteps := 1000000) [go_sem, b0, d0]
    refine bad_ok hSN hwN (by omega) hleN hd _ ?_
    intro J1 q z8 cs8 js1 hSJ hz8 hwd8
    have hk8 : KeepS (fun i => i = H2.length \/ i = H4.length) HN J1 := fun i hi => js1.2 i (by omega) (by omega)
    try simp (maxSteps := 1000000) [go_sem, sysV]
    refine andK_intro hk8 ?_
    have dj := (sys_cells (js1.get hyN (by omega)) onez).1
    try simp (maxSteps := 1000000) [go_sem, dj]
    refine bad_ok hSJ (hvN.keep js1 (fun j hj e => by omega)) (by omega) (by have := js1.1; omega) hdN _ ?_
    intro J2 r z9 cs9 js2 hSJ2 hz9 hwd9
    have hsmJ := (hsmN.trans js1).trans js2
    obtain ⟨A, B, g1, g2, g3, g4, g5, g6, g7, gk⟩ := res_two (q := q) (r := r) hp0 (hsmJ.mono fun j _ e => by omega) (js2.get (js1.get hrN (by omega)) (by omega)) (js2.get (js1.get htN (by omega)) (by omega)) hl0 (hz8.keep js2 (fun j hj e => by omega)) hz9 (by omega)
    try simp (maxSteps := 1000000) [go_sem, sysV]
    try refine andK_intro (fun i hi => (js2.2 i (by have := js1.1; omega) (by omega))) ?_
    try simp (maxSteps := 1000000) [go_sem, g1, g2, g3, g4]
    exact h _ _ _ _ _ _ _ g5 g6 hwd8 g7 hwd9
  · have e0 : (k == 0) = false := by simpa using c0
    by_cases c1 : k = 1
    · subst c1
      obtain ⟨b0, b1, b2, b3⟩ := sys_cells hx6 onew
      simp (maxSteps := 1000000) [go_sem, b1]
      have hp7 : H6 <+: H6 ++ [⟨[.int .i64 p, .int .i64 p, .int .i64 p, .int .i64 9], true, true⟩] := List.prefix_append _ _
      have hi7 : (H6 ++ [(⟨[.int .i64 p, .int .i64 p, .int .i64 p, .int .i64 9], true, true⟩ : Blk)])[H6.length]? = some ⟨ints [(p : Int), (p : Int), (p : Int), 9], true, true⟩ := by simp [ints]
      generalize H6 ++ [(⟨[.int .i64 p, .int .i64 p, .int .i64 p, .int .i64 9], true, true⟩ : Blk)] = H7 at hp7 hi7 ⊢
      refine pick_ok (hS6.pre hp7) (xs := [(p : Int), (p : Int), (p : Int), 9]) hi7 (by omega) (by simp) (by simp) _ ?_
      intro H8 x hs8 hl8 hS8 hx
      obtain ⟨n, rfl, hn⟩ : ∃ n : Nat, x = (n : Int) /\ 3 <= n /\ n <= 15 := ⟨x.toNat, by simp at hx; omega, by simp at hx; omega, by simp at hx; omega⟩
      have hle7 := hp7.length_le
      simp (maxSteps := 1000000) [go_sem]
      refine drawOf_ok hS8 hn _ ?_
      intro H9 z fs hs9 hS9 hz hdN hlN
      have hle9 := hs9.1
      have hle8 := hs8.1
      have hx9 := hs9.get (hs8.get (pget hp7 hx6) (by omega)) (by omega)
      have hy9 := hs9.get (hs8.get (pget hp7 hy6) (by omega)) (by omega)
      have hr9 := hs9.get (hs8.get (pget hp7 hr6) (by omega)) (by omega)
      have ht9 := hs9.get (hs8.get (pget hp7 ht6) (by omega)) (by omega)
      have hw9 := ((hw6.pre hp7).keep hs8 (fun j hj e => by omega)).keep hs9 (fun j hj e => by omega)
      have hsA : Same (fun j => j = H4.length) H9 (H9.set H4.length ⟨[.int .i64 n, z], true, true⟩) := same_set2
      have b3' := (sys_cells hy9 onev).2.2.2 n z hz.one
      have hyN : (H9.set H4.length ⟨[.int .i64 n, z], true, true⟩)[H4.length]? = some ⟨[.int .i64 n, z], true, true⟩ := List.getElem?_set_self (List.getElem?_eq_some_iff.1 hy9).1
      have hxN := hsA.get hx9 (by omega)
      have hrN := hsA.get hr9 (by omega)
      have htN := hsA.get ht9 (by omega)
      have hwN := hw9.past hy9 (noInts_sys hv6) hsA
      have hvN : BIn H1.length (H9.set H4.length ⟨[.int .i64 n, z], true, true⟩) z fs := ⟨_, (hz.keep hsA (by rintro j ⟨e1, e2⟩ e; omega)).wider (by omega)⟩
      have hSN := hS9.keep hsA (fun j e => ⟨by omega, by omega⟩)
      have hsmN := sameUp (((hsm6.trans (Same.of_prefix hp7)).trans hs8).trans hs9) hsA (fun j e => by omega)
      have hleN : H1.length <= (H9.set H4.length ⟨[.int .i64 n, z], true, true⟩).length := by have := hsA.1; omega
      generalize H9.set H4.length ⟨[.int .i64 n, z], true, true⟩ = HN at *
      simp (maxSteps := 1000000) [go_sem, sysV, b3']
      have hxl := (List.getElem?_eq_some_iff.1 hxN).1
      have hyl := (List.getElem?_eq_some_iff.1 hyN).1
      obtain ⟨b0, b1, b2, b3⟩ := sys_cells hxN onew
      have onez := hvN.one
      obtain ⟨d0, d1, d2, d3⟩ := sys_cells hyN onez
      refine AWp.drawS (fun i => i = H2.length \/ i = H4.length) mixed [(0, false), (1, false), (3, false), (4, false), (2, true), (5, false), (6, false), (7, false)] (by kernel_rfl) ?_
      simp (maxSteps := 1000000) [go_sem, b0, d0]
      refine bad_ok hSN hwN (by omega) hleN hd _ ?_
      intro J1 q z8 cs8 js1 hSJ hz8 hwd8
      have hk8 : KeepS (fun i => i = H2.length \/ i = H4.length) HN J1 := fun i hi => js1.2 i (by omega) (by omega)
      try simp (maxSteps := 1000000) [go_sem, sysV]
      refine andK_intro hk8 ?_
      have dj := (sys_cells (js1.get hyN (by omega)) onez).1
      try simp (maxSteps := 1000000) [go_sem, dj]
      refine bad_ok hSJ (hvN.keep js1 (fun j hj e => by omega)) (by omega) (by have := js1.1; omega) hdN _ ?_
      intro J2 r z9 cs9 js2 hSJ2 hz9 hwd9
      have hsmJ := (hsmN.trans js1).trans js2
      obtain ⟨A, B, g1, g2, g3, g4, g5, g6, g7, gk⟩ := res_two (q := q) (r := r) hp0 (hsmJ.mono fun j _ e => by omega) (js2.get (js1.get hrN (by omega)) (by omega)) (js2.get (js1.get htN (by omega)) (by omega)) hl0 (hz8.keep js2 (fun j hj e => by omega)) hz9 (by omega)
      try simp (maxSteps := 1000000) [go_sem, sysV]
      try refine andK_intro (fun i hi => (js2.2 i (by have := js1.1; omega) (by omega))) ?_
      try simp (maxSteps := 1000000) [go_sem, g1, g2, g3, g4]
      exact h _ _ _ _ _ _ _ g5 g6 hwd8 g7 hwd9
    · have e1 : (k == 1) = false := by simpa using c1
      have hxN := hx6
      have hyN := hy6
      have hrN := hr6
      have htN := ht6
      have hwN := hw6
      have hvN := hv6
      have hdN := hdv
      have hSN := hS6
      have hsmN := hsm6
      have hleN : H1.length <= H6.length := by omega
      generalize H6 = HN at *
      simp (maxSteps := 1000000) [go_sem, e0, e1]
      have hxl := (List.getElem?_eq_some_iff.1 hxN).1
      have hyl := (List.getElem?_eq_some_iff.1 hyN).1
      obtain ⟨b0, b1, b2, b3⟩ := sys_cells hxN onew
      have onez := hvN.one
      obtain ⟨d0, d1, d2, d3⟩ := sys_cells hyN onez
      refine AWp.drawS (fun i => i = H2.length \/ i = H4.length) mixed [(0, false), (1, false), (3, false), (4, false), (2, true), (5, false), (6, false), (7, false)] (by kernel_rfl) ?_
      simp (maxSteps := 1000000) [go_sem, b0, d0]
      refine bad_ok hSN hwN (by omega) hleN hd _ ?_
      intro J1 q z8 cs8 js1 hSJ hz8 hwd8
      have hk8 : KeepS (fun i => i = H2.length \/ i = H4.length) HN J1 := fun i hi => js1.2 i (by omega) (by omega)
      try simp (maxSteps := 1000000) [go_sem, sysV]
      refine andK_intro hk8 ?_
      have dj := (sys_cells (js1.get hyN (by omega)) onez).1
      try simp (maxSteps := 1000000) [go_sem, dj]
      refine bad_ok hSJ (hvN.keep js1 (fun j hj e => by omega)) (by omega) (by have := js1.1; omega) hdN _ ?_
      intro J2 r z9 cs9 js2 hSJ2 hz9 hwd9
      have hsmJ := (hsmN.trans js1).trans js2
      obtain ⟨A, B, g1, g2, g3, g4, g5, g6, g7, gk⟩ := res_two (q := q) (r := r) hp0 (hsmJ.mono fun j _ e => by omega) (js2.get (js1.get hrN (by omega)) (by omega)) (js2.get (js1.get htN (by omega)) (by omega)) hl0 (hz8.keep js2 (fun j hj e => by omega)) hz9 (by omega)
      try simp (maxSteps := 1000000) [go_sem, sysV]
      try refine andK_intro (fun i hi => (js2.2 i (by have := js1.1; omega) (by omega))) ?_
      try simp (maxSteps := 1000000) [go_sem, g1, g2, g3, g4]
      exact h _ _ _ _ _ _ _ g5 g6 hwd8 g7 hwd9

end Go.Proofs.YtfnegaedkomcgaaGreat
end
