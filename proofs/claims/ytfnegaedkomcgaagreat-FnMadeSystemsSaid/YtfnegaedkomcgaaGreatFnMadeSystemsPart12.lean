/- Part 12 of what the proof of the law FnMadeSystems rests on: contracts of functions of the program, for every argument that each names; no statement of the seat is proved here. -/
import Derived.Test.YtfnegaedkomcgaaGreatFnMadeSystemsPart11

set_option linter.all false
set_option maxRecDepth 20000
set_option maxHeartbeats 8000000
section
namespace Go.Proofs.YtfnegaedkomcgaaGreat
open Go.Ab

structure Wild (p : Int) (bs : List Bk) : Prop where
  pts : In64 p
  len : bs.length <= 300
  nums : ∀ b ∈ bs, In64 b.a /\ In64 b.b /\ In64 b.c
theorem Drawn.wild {p : Int} {bs : List Bk} (h : Drawn p bs) : Wild p bs := by
  have hp := h.pts
  refine ⟨by unfold In64; omega, by have := h.len; omega, fun b hb => ?_⟩
  have := good_iff.1 (h.good b hb)
  unfold In64
  omega
theorem oe_bin {lo : Nat} {H : Heap} {v : Value} {bs : List Bk} (h : OE 3 lo H v (tri bs) bs.length) (hl : bs.length <= 140737488355328) : ∃ w, Up H v w /\ BIn lo H w bs := by
  obtain ⟨w, h1, h2⟩ := h.blocks hl
  exact ⟨w, h1, _, h2⟩

theorem bad_ok {L s : Nat} {H : Heap} (hs : Src L s H) {p lo : Nat} {u : Value} {bs : List Bk} (hu : BIn lo H u bs) (hsl : s < lo) (hlo : lo <= H.length) (hd : Drawn p bs) (Post : Value -> Heap -> Prop)
    (h : ∀ (H' : Heap) (q : Int) (w : Value) (cs : List Bk), Same (fun j => j = s) H H' -> Src L s H' -> BIn lo H' w cs -> Wild q cs -> Post (sysV q w) H') :
    ACalls Tryz.prog 70 [.pointer (some ⟨s, 0, none⟩), sysV p u] H Post := by
  have hslt := hs.lt
  have oneu := hu.one
  have hpp := hd.pts
  have hlb := hd.len
  obtain ⟨ui, ueq⟩ : ∃ i, u = lv 3 i 0 bs.length := by obtain ⟨_, id, ⟨e, _, _⟩, _⟩ := hu; exact ⟨id, e⟩
  subst ueq
  have uat : At H ui 0 (tri bs) := by
    obtain ⟨j, o, e, ha, _⟩ := hu.read
    simp at e
    obtain ⟨rfl, rfl⟩ := e
    exact ha
  refine ACalls.res ?_
  refine acalls_vc (rs := [.cell 4 26]) Tryz.func70 rfl rfl Tryz.ntmps70 rfl rfl ?_
  simp (maxSteps := 1000000) [go_sem, sysV]
  have hp0 : H <+: H ++ [⟨[.int .i64 p, lv 3 ui 0 bs.length], true, true⟩, ⟨[.int .i64 0, .slice none 0 0], true, true⟩, ⟨[], true, true⟩] := List.prefix_append _ _
  have hx0 : (H ++ [(⟨[.int .i64 p, lv 3 ui 0 bs.length], true, true⟩ : Blk), ⟨[.int .i64 0, .slice none 0 0], true, true⟩, ⟨[], true, true⟩])[H.length]? = some ⟨[.int .i64 p, lv 3 ui 0 bs.length], true, true⟩ := by simp
  have hr0 : (H ++ [(⟨[.int .i64 p, lv 3 ui 0 bs.length], true, true⟩ : Blk), ⟨[.int .i64 0, .slice none 0 0], true, true⟩, ⟨[], true, true⟩])[H.length + 1]? = some ⟨[.int .i64 0, .slice none 0 0], true, true⟩ := by simp
  have he0 : (H ++ [(⟨[.int .i64 p, lv 3 ui 0 bs.length], true, true⟩ : Blk), ⟨[.int .i64 0, .slice none 0 0], true, true⟩, ⟨[], true, true⟩])[H.length + 2]? = some ⟨[], true, true⟩ := by simp
  have hl0 : (H ++ [(⟨[.int .i64 p, lv 3 ui 0 bs.length], true, true⟩ : Blk), ⟨[.int .i64 0, .slice none 0 0], true, true⟩, ⟨[], true, true⟩]).length = H.length + 3 := by simp
  generalize H ++ [(⟨[.int .i64 p, lv 3 ui 0 bs.length], true, true⟩ : Blk), ⟨[.int .i64 0, .slice none 0 0], true, true⟩, ⟨[], true, true⟩] = H0 at hp0 hx0 hr0 he0 hl0 ⊢
  obtain ⟨a0, a1, a2, a3⟩ := sys_cells hx0 oneu
  have hsrc := tri_src (uat.pre hp0)
  simp only [srcCells, List.length_eq_zero_iff] at hsrc
  obtain ⟨v1, H1, hap1, hv1, hp1⟩ := emptyAppend (L := H.length + 2) (e := 3) (m := bs.length) (news := tri bs) (Nat.le_refl _) he0 (by omega) (by rw [tri_length])
  obtain ⟨sl1, rfl⟩ := hv1.shape
  simp (maxSteps := 1000000) [go_sem, sysV, a2, hsrc, hap1]
  refine andK_intro (by omega) ?_
  have hle1 := hp1.length_le
  have hx1 := pget hp1 hx0
  have hr1 := pget hp1 hr0
  refine next_ok (hs.pre (hp0.trans hp1)) _ ?_
  intro H2 q hs2 hl2 hS2 hq0 hq1
  have hsm2 : Same (fun j => j = s) H H2 := (Same.of_prefix (hp0.trans hp1)).trans hs2
  have hx2 := hs2.get hx1 (by omega)
  have hr2 := hs2.get hr1 (by omega)
  have hv2 := hv1.keep hs2 (fun j hj e => by omega)
  have hsL := hs.1
  have fin : ∀ (H3 : Heap) (x : Int) (v : Value) (cs : List Bk), Same (fun j => j = s) H H3 -> Src L s H3 -> H3[H.length + 1]? = some ⟨[.int .i64 0, .slice none 0 0], true, true⟩ -> OE 3 (H.length + 2) H3 v (tri cs) cs.length -> Wild x cs ->
      storeAt H3 (H.length + 1) 0 [.int .i64 x, v] = some (H3.set (H.length + 1) ⟨[.int .i64 x, v], true, true⟩) /\ cellsAt (H3.set (H.length + 1) ⟨[.int .i64 x, v], true, true⟩) (H.length + 1) 0 2 = some [.int .i64 x, v] /\
        ∃ v', Up (H3.set (H.length + 1) ⟨[.int .i64 x, v], true, true⟩) (.agg #[.int .i64 x, v]) v' /\ Post v' (H3.set (H.length + 1) ⟨[.int .i64 x, v], true, true⟩) := by
    intro H3 x v cs e1 e2 e3 e4 e5
    obtain ⟨r0, r1, r2, r3⟩ := sys_cells e3 rfl
    have hs4 : Same (fun j => j = H.length + 1) H3 (H3.set (H.length + 1) ⟨[.int .i64 x, v], true, true⟩) := same_set2
    have hr4 : (H3.set (H.length + 1) ⟨[.int .i64 x, v], true, true⟩)[H.length + 1]? = some ⟨[.int .i64 x, v], true, true⟩ := List.getElem?_set_self (List.getElem?_eq_some_iff.1 e3).1
    obtain ⟨w, hup, hw⟩ := oe_bin (e4.keep hs4 (fun j hj e => by omega)) (by have := e5.len; omega)
    exact ⟨r3 x v e4.one, (sys_cells hr4 e4.one).1, sysV x w, Up.agg ⟨Up.refl _ _, hup, trivial⟩, h _ x w cs (sameUp e1 hs4 (fun j e => by omega)) (e2.keep hs4 (fun j e => ⟨by omega, by omega⟩)) (hw.wider (by omega)) e5⟩
  have hwild := hd.wild
  by_cases c0 : q = 0
  · subst c0
    simp (maxSteps := 1000000) [go_sem]
    have hp3 : H2 <+: H2 ++ [⟨[.int .i64 2, .int .i64 16, .int .i64 0, .int .i64 (-1)], true, true⟩] := List.prefix_append _ _
    have hi3 : (H2 ++ [(⟨[.int .i64 2, .int .i64 16, .int .i64 0, .int .i64 (-1)], true, true⟩ : Blk)])[H2.length]? = some ⟨ints [2, 16, 0, -1], true, true⟩ := by simp [ints]
    generalize H2 ++ [(⟨[.int .i64 2, .int .i64 16, .int .i64 0, .int .i64 (-1)], true, true⟩ : Blk)] = H3 at hp3 hi3 ⊢
    refine pick_ok (hS2.pre hp3) (xs := [2, 16, 0, -1]) hi3 (by omega) (by simp) (by simp) _ ?_
    intro H4 x hs4 hl4 hS4 hx
    have hxr : In64 x := by simp at hx; unfold In64; omega
    obtain ⟨f1, f2, f3⟩ := fin H4 x _ bs ((hsm2.trans (Same.of_prefix hp3)).trans hs4) hS4 (hs4.get (pget hp3 hr2) (by omega)) ((hv2.pre hp3).keep hs4 (fun j hj e => by omega)) ⟨hxr, hwild.len, hwild.nums⟩
    simp (maxSteps := 1000000) [go_sem, f1, f2]
    exact f3
  · have b0 : (q == 0) = false := by simpa using c0
    by_cases c1 : q = 1
    · subst c1
      simp (maxSteps := 1000000) [go_sem]
      obtain ⟨a0, a1, a2, a3⟩ := sys_cells hx2 oneu
      have wp1 : IntKind.i64.wrap ((p : Int) - 1) = (p : Int) - 1 := i64w (by omega) (by omega)
      have last : ∀ (D H9 : Heap) (x y z : Int) (sl : Option Addr), Same (fun j => j = s) H2 D -> Src L s D -> KeepL (H.length + 2) D H9 -> D.length <= H9.length -> OE 3 (H.length + 2) H9 (.slice sl (bs.length + 1) (bs.length + 1)) (tri bs ++ [.int .i64 x, .int .i64 y, .int .i64 z]) (bs.length + 1) ->
          (0 <= x /\ (x < 3 \/ x = 0)) -> y ∈ [1, 2, (p : Int)] -> z ∈ [2, (p : Int), (p : Int) - 1] ->
          storeAt H9 (H.length + 1) 0 [.int .i64 p, .slice sl (bs.length + 1) (bs.length + 1)] = some (H9.set (H.length + 1) ⟨[.int .i64 p, .slice sl (bs.length + 1) (bs.length + 1)], true, true⟩) /\ cellsAt (H9.set (H.length + 1) ⟨[.int .i64 p, .slice sl (bs.length + 1) (bs.length + 1)], true, true⟩) (H.length + 1) 0 2 = some [.int .i64 p, .slice sl (bs.length + 1) (bs.length + 1)] /\
            (∃ v', Up (H9.set (H.length + 1) ⟨[.int .i64 p, .slice sl (bs.length + 1) (bs.length + 1)], true, true⟩) (.agg #[.int .i64 p, .slice sl (bs.length + 1) (bs.length + 1)]) v' /\ Post v' (H9.set (H.length + 1) ⟨[.int .i64 p, .slice sl (bs.length + 1) (bs.length + 1)], true, true⟩)) /\ cellsAt H9 H.length 0 1 = some [.int .i64 p] := by
        intro D H9 x y z sl e1 e2 e3 e4 e5 e6 e7 e8
        have hsD : Same (fun j => H.length + 2 <= j) D H9 := ⟨e4, fun j _ hS => e3 j (by omega)⟩
        have hxD := hsD.get (e1.get hx2 (by omega)) (by omega)
        have hrD := hsD.get (e1.get hr2 (by omega)) (by omega)
        have hc : tri bs ++ [.int .i64 x, .int .i64 y, .int .i64 z] = tri (bs ++ [⟨x, y, z⟩]) := by rw [tri_append]; rfl
        simp only [List.mem_cons, List.not_mem_nil, or_false] at e7 e8
        obtain ⟨f1, f2, f3⟩ := fin H9 p _ (bs ++ [⟨x, y, z⟩]) (sameUp (hsm2.trans e1) hsD (fun j e => by omega)) (e2.keep hsD (fun j e => ⟨by omega, by omega⟩)) hrD (by rw [hc] at e5; rw [List.length_append]; exact e5)
          ⟨hwild.pts, by simp; omega, fun b hb => by
            rcases List.mem_append.1 hb with hb | hb
            · exact hwild.nums b hb
            · simp at hb; subst hb; unfold In64; simp only; omega⟩
        exact ⟨f1, f2, f3, (sys_cells hxD oneu).2.1⟩
      refine AWp.drawGS (fun i => i ≠ s /\ i < H2.length) mixed [6, 14] [(0, false), (1, false), (3, false), (4, false), (5, false), (8, false), (9, false), (10, false), (11, false), (12, false), (13, false), (2, true), (6, true), (7, true), (14, true), (15, false), (16, false), (17, false), (18, false), (19, false)] (.one 0 false (.one 1 false (.one 3 false (.one 4 false (.one 5 false (.one 8 false (.one 9 false (.one 10 false (.one 11 false (.one 12 false (.one 13 false (.alt 6 (.alt 14 (.one 2 true (.one 7 true (.one 15 false (.one 16 false (.one 17 false (.one 18 false (.one 19 false .nil))))))) (.one 2 true (.alt 14 (.one 7 true (.one 15 false (.one 16 false (.one 17 false (.one 18 false (.one 19 false .nil)))))) (.one 7 true (.one 14 true (.one 15 false (.one 16 false (.one 17 false (.one 18 false (.one 19 false .nil)))))))))) (.alt 14 (.alt 6 (.one 2 true (.one 7 true (.one 15 false (.one 16 false (.one 17 false (.one 18 false (.one 19 false .nil))))))) (.one 2 true (.one 6 true (.one 7 true (.one 15 false (.one 16 false (.one 17 false (.one 18 false (.one 19 false .nil))))))))) (.one 2 true (.alt 14 (.one 6 true (.one 7 true (.one 15 false (.one 16 false (.one 17 false (.one 18 false (.one 19 false .nil))))))) (.one 6 true (.alt 14 (.one 7 true (.one 15 false (.one 16 false (.one 17 false (.one 18 false (.one 19 false .nil)))))) (.one 7 true (.one 14 true (.one 15 false (.one 16 false (.one 17 false (.one 18 false (.one 19 false .nil)))))))))))))))))))))))) (by kernel_rfl) ?_
      simp (maxSteps := 1000000) [go_sem, a0, a1, a2, wp1]
      have hl2' := (List.getElem?_eq_some_iff.1 hx2).1
      refine andK_intro ⟨by omega, hl2'⟩ (andK_intro ⟨by omega, hl2'⟩ (andK_intro ⟨by omega, hl2'⟩ ?_))
      refine vGS_alt ?_ ?_
      · have gp1 : H2 <+: H2 ++ [⟨[.int .i64 1, .int .i64 2, .int .i64 p], true, true⟩] := List.prefix_append _ _
        have gb6 : (H2 ++ [(⟨[.int .i64 1, .int .i64 2, .int .i64 p], true, true⟩ : Blk)])[H2.length]? = some ⟨ints [1, 2, (p : Int)], true, true⟩ := by simp [ints]
        have gn6 : H2.length ≠ s := by have := Nat.le_refl H2.length; omega
        have gk1 : KeepS (fun i => i ≠ s /\ i < H2.length) H2 (H2 ++ [⟨[.int .i64 1, .int .i64 2, .int .i64 p], true, true⟩]) := fun i hi => List.getElem?_append_left (by have := Nat.le_refl H2.length; omega)
        try simp (maxSteps := 1000000) [go_sem, wp1]
        generalize H2 ++ [(⟨[.int .i64 1, .int .i64 2, .int .i64 p], true, true⟩ : Blk)] = G1 at gp1 gb6 gk1 ⊢
        refine andK_intro gk1 ?_
        have gle1 : H2.length <= G1.length := Nat.le_trans (Nat.le_refl H2.length) (gp1.length_le)
        have gsm1 : Same (fun j => j = s) H2 G1 := (Same.refl (fun j => j = s) H2).trans (Same.of_prefix gp1)
        refine vGS_alt ?_ ?_
        · have gp2 : G1 <+: G1 ++ [⟨[.int .i64 2, .int .i64 p, .int .i64 ((p : Int) - 1)], true, true⟩] := List.prefix_append _ _
          have gb14 : (G1 ++ [(⟨[.int .i64 2, .int .i64 p, .int .i64 ((p : Int) - 1)], true, true⟩ : Blk)])[G1.length]? = some ⟨ints [2, (p : Int), (p : Int) - 1], true, true⟩ := by simp [ints]
          have gn14 : G1.length ≠ s := by have := gle1; omega
          have gk2 : KeepS (fun i => i ≠ s /\ i < H2.length) G1 (G1 ++ [⟨[.int .i64 2, .int .i64 p, .int .i64 ((p : Int) - 1)], true, true⟩]) := fun i hi => List.getElem?_append_left (by have := gle1; omega)
          try simp (maxSteps := 1000000) [go_sem, wp1]
          generalize G1 ++ [(⟨[.int .i64 2, .int .i64 p, .int .i64 ((p : Int) - 1)], true, true⟩ : Blk)] = G2 at gp2 gb14 gk2 ⊢
          refine andK_intro gk2 ?_
          have gle2 : H2.length <= G2.length := Nat.le_trans (gle1) (gp2.length_le)
          have gsm2 : Same (fun j => j = s) H2 G2 := gsm1.trans (Same.of_prefix gp2)
          try simp (maxSteps := 1000000) [go_sem, wp1]
          refine next_ok ((hS2.pre gp1).pre gp2) _ ?_
          intro G3 r2 gs3 gl3 gS3 r20 r21
          have gk3 : KeepS (fun i => i ≠ s /\ i < H2.length) G2 G3 := fun i hi => gs3.2 i (by have := gle2; omega) hi.1
          try simp (maxSteps := 1000000) [go_sem, wp1]
          refine andK_intro gk3 ?_
          try simp (maxSteps := 1000000) [go_sem, wp1]
          have gb6 := gs3.get (pget gp2 gb6) (by omega)
          have gb14 := gs3.get gb14 (by omega)
          have gle3 : H2.length <= G3.length := Nat.le_trans (gle2) (gs3.1)
          have gsm3 : Same (fun j => j = s) H2 G3 := gsm2.trans gs3
          try simp (maxSteps := 1000000) [go_sem, wp1]
          refine pick_ok gS3 (xs := [1, 2, (p : Int)]) gb6 (by omega) (by simp) (by simp) _ ?_
          intro G4 r7 gs4 gl4 gS4 r7m
          have gk4 : KeepS (fun i => i ≠ s /\ i < H2.length) G3 G4 := fun i hi => gs4.2 i (by have := gle3; omega) hi.1
          try simp (maxSteps := 1000000) [go_sem, wp1]
          refine andK_intro gk4 ?_
          try simp (maxSteps := 1000000) [go_sem, wp1]
          have gb6 := gs4.get gb6 (by omega)
          have gb14 := gs4.get gb14 (by omega)
          have gle4 : H2.length <= G4.length := Nat.le_trans (gle3) (gs4.1)
          have gsm4 : Same (fun j => j = s) H2 G4 := gsm3.trans gs4
          try simp (maxSteps := 1000000) [go_sem, wp1]
          refine pick_ok gS4 (xs := [2, (p : Int), (p : Int) - 1]) gb14 (by omega) (by simp) (by simp) _ ?_
          intro G5 r15 gs5 gl5 gS5 r15m
          have gb6 := gs5.get gb6 (by omega)
          have gb14 := gs5.get gb14 (by omega)
          have gle5 : H2.length <= G5.length := Nat.le_trans (gle4) (gs5.1)
          have gsm5 : Same (fun j => j = s) H2 G5 := gsm4.trans gs5
          have zp : G5 <+: G5 ++ [⟨[.int .i64 r2, .int .i64 r7, .int .i64 r15], true, true⟩] := List.prefix_append _ _
          have zc : cellsAt (G5 ++ [(⟨[.int .i64 r2, .int .i64 r7, .int .i64 r15], true, true⟩ : Blk)]) G5.length 0 3 = some [.int .i64 r2, .int .i64 r7, .int .i64 r15] := by rw [cellsAt_of (b := ⟨[.int .i64 r2, .int .i64 r7, .int .i64 r15], true, true⟩) (by simp) rfl (by simp)]; rfl
          have zv := (hv2.keep gsm5 (fun j hj e => by omega)).pre zp
          obtain ⟨v9, H9, zap, ze, zk, zl⟩ := zv.append (m := 1) (news := [.int .i64 r2, .int .i64 r7, .int .i64 r15]) (by omega) (by have := zp.length_le; omega) rfl
          obtain ⟨sl9, rfl⟩ := ze.shape
          obtain ⟨f1, f2, f3, f4⟩ := last _ H9 r2 r7 r15 sl9 (gsm5.trans (Same.of_prefix zp)) (gS5.pre zp) zk zl ze ⟨r20, r21⟩ r7m r15m
          simp (maxSteps := 1000000) [go_sem, wp1, zc, zap, f1, f2, f4]
          exact andK_intro (by omega) f3
        · try simp (maxSteps := 1000000) [go_sem, wp1]
          refine next_ok (hS2.pre gp1) _ ?_
          intro G2 r2 gs2 gl2 gS2 r20 r21
          have gk2 : KeepS (fun i => i ≠ s /\ i < H2.length) G1 G2 := fun i hi => gs2.2 i (by have := gle1; omega) hi.1
          try simp (maxSteps := 1000000) [go_sem, wp1]
          refine andK_intro gk2 ?_
          try simp (maxSteps := 1000000) [go_sem, wp1]
          have gb6 := gs2.get gb6 (by omega)
          have gle2 : H2.length <= G2.length := Nat.le_trans (gle1) (gs2.1)
          have gsm2 : Same (fun j => j = s) H2 G2 := gsm1.trans gs2
          refine vGS_alt ?_ ?_
          · have gp3 : G2 <+: G2 ++ [⟨[.int .i64 2, .int .i64 p, .int .i64 ((p : Int) - 1)], true, true⟩] := List.prefix_append _ _
            have gb14 : (G2 ++ [(⟨[.int .i64 2, .int .i64 p, .int .i64 ((p : Int) - 1)], true, true⟩ : Blk)])[G2.length]? = some ⟨ints [2, (p : Int), (p : Int) - 1], true, true⟩ := by simp [ints]
            have gn14 : G2.length ≠ s := by have := gle2; omega
            have gk3 : KeepS (fun i => i ≠ s /\ i < H2.length) G2 (G2 ++ [⟨[.int .i64 2, .int .i64 p, .int .i64 ((p : Int) - 1)], true, true⟩]) := fun i hi => List.getElem?_append_left (by have := gle2; omega)
            try simp (maxSteps := 1000000) [go_sem, wp1]
            generalize G2 ++ [(⟨[.int .i64 2, .int .i64 p, .int .i64 ((p : Int) - 1)], true, true⟩ : Blk)] = G3 at gp3 gb14 gk3 ⊢
            refine andK_intro gk3 ?_
            have gle3 : H2.length <= G3.length := Nat.le_trans (gle2) (gp3.length_le)
            have gsm3 : Same (fun j => j = s) H2 G3 := gsm2.trans (Same.of_prefix gp3)
            try simp (maxSteps := 1000000) [go_sem, wp1]
            refine pick_ok (gS2.pre gp3) (xs := [1, 2, (p : Int)]) (pget gp3 gb6) (by omega) (by simp) (by simp) _ ?_
            intro G4 r7 gs4 gl4 gS4 r7m
            have gk4 : KeepS (fun i => i ≠ s /\ i < H2.length) G3 G4 := fun i hi => gs4.2 i (by have := gle3; omega) hi.1
            try simp (maxSteps := 1000000) [go_sem, wp1]
            refine andK_intro gk4 ?_
            try simp (maxSteps := 1000000) [go_sem, wp1]
            have gb6 := gs4.get (pget gp3 gb6) (by omega)
            have gb14 := gs4.get gb14 (by omega)
            have gle4 : H2.length <= G4.length := Nat.le_trans (gle3) (gs4.1)
            have gsm4 : Same (fun j => j = s) H2 G4 := gsm3.trans gs4
            try simp (maxSteps := 1000000) [go_sem, wp1]
            refine pick_ok gS4 (xs := [2, (p : Int), (p : Int) - 1]) gb14 (by omega) (by simp) (by simp) _ ?_
            intro G5 r15 gs5 gl5 gS5 r15m
            have gb6 := gs5.get gb6 (by omega)
            have gb14 := gs5.get gb14 (by omega)
            have gle5 : H2.length <= G5.length := Nat.le_trans (gle4) (gs5.1)
            have gsm5 : Same (fun j => j = s) H2 G5 := gsm4.trans gs5
            have zp : G5 <+: G5 ++ [⟨[.int .i64 r2, .int .i64 r7, .int .i64 r15], true, true⟩] := List.prefix_append _ _
            have zc : cellsAt (G5 ++ [(⟨[.int .i64 r2, .int .i64 r7, .int .i64 r15], true, true⟩ : Blk)]) G5.length 0 3 = some [.int .i64 r2, .int .i64 r7, .int .i64 r15] := by rw [cellsAt_of (b := ⟨[.int .i64 r2, .int .i64 r7, .int .i64 r15], true, true⟩) (by simp) rfl (by simp)]; rfl
            have zv := (hv2.keep gsm5 (fun j hj e => by omega)).pre zp
            obtain ⟨v9, H9, zap, ze, zk, zl⟩ := zv.append (m := 1) (news := [.int .i64 r2, .int .i64 r7, .int .i64 r15]) (by omega) (by have := zp.length_le; omega) rfl
            obtain ⟨sl9, rfl⟩ := ze.shape
            obtain ⟨f1, f2, f3, f4⟩ := last _ H9 r2 r7 r15 sl9 (gsm5.trans (Same.of_prefix zp)) (gS5.pre zp) zk zl ze ⟨r20, r21⟩ r7m r15m
            simp (maxSteps := 1000000) [go_sem, wp1, zc, zap, f1, f2, f4]
            exact andK_intro (by omega) f3
          · try simp (maxSteps := 1000000) [go_sem, wp1]
            refine pick_ok gS2 (xs := [1, 2, (p : Int)]) gb6 (by omega) (by simp) (by simp) _ ?_
            intro G3 r7 gs3 gl3 gS3 r7m
            have gk3 : KeepS (fun i => i ≠ s /\ i < H2.length) G2 G3 := fun i hi => gs3.2 i (by have := gle2; omega) hi.1
            try simp (maxSteps := 1000000) [go_sem, wp1]
            refine andK_intro gk3 ?_
            try simp (maxSteps := 1000000) [go_sem, wp1]
            have gb6 := gs3.get gb6 (by omega)
            have gle3 : H2.length <= G3.length := Nat.le_trans (gle2) (gs3.1)
            have gsm3 : Same (fun j => j = s) H2 G3 := gsm2.trans gs3
            have gp4 : G3 <+: G3 ++ [⟨[.int .i64 2, .int .i64 p, .int .i64 ((p : Int) - 1)], true, true⟩] := List.prefix_append _ _
            have gb14 : (G3 ++ [(⟨[.int .i64 2, .int .i64 p, .int .i64 ((p : Int) - 1)], true, true⟩ : Blk)])[G3.length]? = some ⟨ints [2, (p : Int), (p : Int) - 1], true, true⟩ := by simp [ints]
            have gn14 : G3.length ≠ s := by have := gle3; omega
            have gk4 : KeepS (fun i => i ≠ s /\ i < H2.length) G3 (G3 ++ [⟨[.int .i64 2, .int .i64 p, .int .i64 ((p : Int) - 1)], true, true⟩]) := fun i hi => List.getElem?_append_left (by have := gle3; omega)
            try simp (maxSteps := 1000000) [go_sem, wp1]
            generalize G3 ++ [(⟨[.int .i64 2, .int .i64 p, .int .i64 ((p : Int) - 1)], true, true⟩ : Blk)] = G4 at gp4 gb14 gk4 ⊢
            refine andK_intro gk4 ?_
            have gle4 : H2.length <= G4.length := Nat.le_trans (gle3) (gp4.length_le)
            have gsm4 : Same (fun j => j = s) H2 G4 := gsm3.trans (Same.of_prefix gp4)
            try simp (maxSteps := 1000000) [go_sem, wp1]
            refine pick_ok (gS3.pre gp4) (xs := [2, (p : Int), (p : Int) - 1]) gb14 (by omega) (by simp) (by simp) _ ?_
            intro G5 r15 gs5 gl5 gS5 r15m
            have gb6 := gs5.get (pget gp4 gb6) (by omega)
            have gb14 := gs5.get gb14 (by omega)
            have gle5 : H2.length <= G5.length := Nat.le_trans (gle4) (gs5.1)
            have gsm5 : Same (fun j => j = s) H2 G5 := gsm4.trans gs5
            have zp : G5 <+: G5 ++ [⟨[.int .i64 r2, .int .i64 r7, .int .i64 r15], true, true⟩] := List.prefix_append _ _
            have zc : cellsAt (G5 ++ [(⟨[.int .i64 r2, .int .i64 r7, .int .i64 r15], true, true⟩ : Blk)]) G5.length 0 3 = some [.int .i64 r2, .int .i64 r7, .int .i64 r15] := by rw [cellsAt_of (b := ⟨[.int .i64 r2, .int .i64 r7, .int .i64 r15], true, true⟩) (by simp) rfl (by simp)]; rfl
            have zv := (hv2.keep gsm5 (fun j hj e => by omega)).pre zp
            obtain ⟨v9, H9, zap, ze, zk, zl⟩ := zv.append (m := 1) (news := [.int .i64 r2, .int .i64 r7, .int .i64 r15]) (by omega) (by have := zp.length_le; omega) rfl
            obtain ⟨sl9, rfl⟩ := ze.shape
            obtain ⟨f1, f2, f3, f4⟩ := last _ H9 r2 r7 r15 sl9 (gsm5.trans (Same.of_prefix zp)) (gS5.pre zp) zk zl ze ⟨r20, r21⟩ r7m r15m
            simp (maxSteps := 1000000) [go_sem, wp1, zc, zap, f1, f2, f4]
            exact andK_intro (by omega) f3
      · refine vGS_alt ?_ ?_
        · have gp1 : H2 <+: H2 ++ [⟨[.int .i64 2, .int .i64 p, .int .i64 ((p : Int) - 1)], true, true⟩] := List.prefix_append _ _
          have gb14 : (H2 ++ [(⟨[.int .i64 2, .int .i64 p, .int .i64 ((p : Int) - 1)], true, true⟩ : Blk)])[H2.length]? = some ⟨ints [2, (p : Int), (p : Int) - 1], true, true⟩ := by simp [ints]
          have gn14 : H2.length ≠ s := by have := Nat.le_refl H2.length; omega
          have gk1 : KeepS (fun i => i ≠ s /\ i < H2.length) H2 (H2 ++ [⟨[.int .i64 2, .int .i64 p, .int .i64 ((p : Int) - 1)], true, true⟩]) := fun i hi => List.getElem?_append_left (by have := Nat.le_refl H2.length; omega)
          try simp (maxSteps := 1000000) [go_sem, wp1]
          generalize H2 ++ [(⟨[.int .i64 2, .int .i64 p, .int .i64 ((p : Int) - 1)], true, true⟩ : Blk)] = G1 at gp1 gb14 gk1 ⊢
          refine andK_intro gk1 ?_
          have gle1 : H2.length <= G1.length := Nat.le_trans (Nat.le_refl H2.length) (gp1.length_le)
          have gsm1 : Same (fun j => j = s) H2 G1 := (Same.refl (fun j => j = s) H2).trans (Same.of_prefix gp1)
          refine vGS_alt ?_ ?_
          · have gp2 : G1 <+: G1 ++ [⟨[.int .i64 1, .int .i64 2, .int .i64 p], true, true⟩] := List.prefix_append _ _
            have gb6 : (G1 ++ [(⟨[.int .i64 1, .int .i64 2, .int .i64 p], true, true⟩ : Blk)])[G1.length]? = some ⟨ints [1, 2, (p : Int)], true, true⟩ := by simp [ints]
            have gn6 : G1.length ≠ s := by have := gle1; omega
            have gk2 : KeepS (fun i => i ≠ s /\ i < H2.length) G1 (G1 ++ [⟨[.int .i64 1, .int .i64 2, .int .i64 p], true, true⟩]) := fun i hi => List.getElem?_append_left (by have := gle1; omega)
            try simp (maxSteps := 1000000) [go_sem, wp1]
            generalize G1 ++ [(⟨[.int .i64 1, .int .i64 2, .int .i64 p], true, true⟩ : Blk)] = G2 at gp2 gb6 gk2 ⊢
            refine andK_intro gk2 ?_
            have gle2 : H2.length <= G2.length := Nat.le_trans (gle1) (gp2.length_le)
            have gsm2 : Same (fun j => j = s) H2 G2 := gsm1.trans (Same.of_prefix gp2)
            try simp (maxSteps := 1000000) [go_sem, wp1]
            refine next_ok ((hS2.pre gp1).pre gp2) _ ?_
            intro G3 r2 gs3 gl3 gS3 r20 r21
            have gk3 : KeepS (fun i => i ≠ s /\ i < H2.length) G2 G3 := fun i hi => gs3.2 i (by have := gle2; omega) hi.1
            try simp (maxSteps := 1000000) [go_sem, wp1]
            refine andK_intro gk3 ?_
            try simp (maxSteps := 1000000) [go_sem, wp1]
            have gb14 := gs3.get (pget gp2 gb14) (by omega)
            have gb6 := gs3.get gb6 (by omega)
            have gle3 : H2.length <= G3.length := Nat.le_trans (gle2) (gs3.1)
            have gsm3 : Same (fun j => j = s) H2 G3 := gsm2.trans gs3
            try simp (maxSteps := 1000000) [go_sem, wp1]
            refine pick_ok gS3 (xs := [1, 2, (p : Int)]) gb6 (by omega) (by simp) (by simp) _ ?_
            intro G4 r7 gs4 gl4 gS4 r7m
            have gk4 : KeepS (fun i => i ≠ s /\ i < H2.length) G3 G4 := fun i hi => gs4.2 i (by have := gle3; omega) hi.1
            try simp (maxSteps := 1000000) [go_sem, wp1]
            refine andK_intro gk4 ?_
            try simp (maxSteps := 1000000) [go_sem, wp1]
            have gb14 := gs4.get gb14 (by omega)
            have gb6 := gs4.get gb6 (by omega)
            have gle4 : H2.length <= G4.length := Nat.le_trans (gle3) (gs4.1)
            have gsm4 : Same (fun j => j = s) H2 G4 := gsm3.trans gs4
            try simp (maxSteps := 1000000) [go_sem, wp1]
            refine pick_ok gS4 (xs := [2, (p : Int), (p : Int) - 1]) gb14 (by omega) (by simp) (by simp) _ ?_
            intro G5 r15 gs5 gl5 gS5 r15m
            have gb14 := gs5.get gb14 (by omega)
            have gb6 := gs5.get gb6 (by omega)
            have gle5 : H2.length <= G5.length := Nat.le_trans (gle4) (gs5.1)
            have gsm5 : Same (fun j => j = s) H2 G5 := gsm4.trans gs5
            have zp : G5 <+: G5 ++ [⟨[.int .i64 r2, .int .i64 r7, .int .i64 r15], true, true⟩] := List.prefix_append _ _
            have zc : cellsAt (G5 ++ [(⟨[.int .i64 r2, .int .i64 r7, .int .i64 r15], true, true⟩ : Blk)]) G5.length 0 3 = some [.int .i64 r2, .int .i64 r7, .int .i64 r15] := by rw [cellsAt_of (b := ⟨[.int .i64 r2, .int .i64 r7, .int .i64 r15], true, true⟩) (by simp) rfl (by simp)]; rfl
            have zv := (hv2.keep gsm5 (fun j hj e => by omega)).pre zp
            obtain ⟨v9, H9, zap, ze, zk, zl⟩ := zv.append (m := 1) (news := [.int .i64 r2, .int .i64 r7, .int .i64 r15]) (by omega) (by have := zp.length_le; omega) rfl
            obtain ⟨sl9, rfl⟩ := ze.shape
            obtain ⟨f1, f2, f3, f4⟩ := last _ H9 r2 r7 r15 sl9 (gsm5.trans (Same.of_prefix zp)) (gS5.pre zp) zk zl ze ⟨r20, r21⟩ r7m r15m
            simp (maxSteps := 1000000) [go_sem, wp1, zc, zap, f1, f2, f4]
            exact andK_intro (by omega) f3
          · try simp (maxSteps := 1000000) [go_sem, wp1]
            refine next_ok (hS2.pre gp1) _ ?_
            intro G2 r2 gs2 gl2 gS2 r20 r21
            have gk2 : KeepS (fun i => i ≠ s /\ i < H2.length) G1 G2 := fun i hi => gs2.2 i (by have := gle1; omega) hi.1
            try simp (maxSteps := 1000000) [go_sem, wp1]
            refine andK_intro gk2 ?_
            try simp (maxSteps := 1000000) [go_sem, wp1]
            have gb14 := gs2.get gb14 (by omega)
            have gle2 : H2.length <= G2.length := Nat.le_trans (gle1) (gs2.1)
            have gsm2 : Same (fun j => j = s) H2 G2 := gsm1.trans gs2
            have gp3 : G2 <+: G2 ++ [⟨[.int .i64 1, .int .i64 2, .int .i64 p], true, true⟩] := List.prefix_append _ _
            have gb6 : (G2 ++ [(⟨[.int .i64 1, .int .i64 2, .int .i64 p], true, true⟩ : Blk)])[G2.length]? = some ⟨ints [1, 2, (p : Int)], true, true⟩ := by simp [ints]
            have gn6 : G2.length ≠ s := by have := gle2; omega
            have gk3 : KeepS (fun i => i ≠ s /\ i < H2.length) G2 (G2 ++ [⟨[.int .i64 1, .int .i64 2, .int .i64 p], true, true⟩]) := fun i hi => List.getElem?_append_left (by have := gle2; omega)
            try simp (maxSteps := 1000000) [go_sem, wp1]
            generalize G2 ++ [(⟨[.int .i64 1, .int .i64 2, .int .i64 p], true, true⟩ : Blk)] = G3 at gp3 gb6 gk3 ⊢
            refine andK_intro gk3 ?_
            have gle3 : H2.length <= G3.length := Nat.le_trans (gle2) (gp3.length_le)
            have gsm3 : Same (fun j => j = s) H2 G3 := gsm2.trans (Same.of_prefix gp3)
            try simp (maxSteps := 1000000) [go_sem, wp1]
            refine pick_ok (gS2.pre gp3) (xs := [1, 2, (p : Int)]) gb6 (by omega) (by simp) (by simp) _ ?_
            intro G4 r7 gs4 gl4 gS4 r7m
            have gk4 : KeepS (fun i => i ≠ s /\ i < H2.length) G3 G4 := fun i hi => gs4.2 i (by have := gle3; omega) hi.1
            try simp (maxSteps := 1000000) [go_sem, wp1]
            refine andK_intro gk4 ?_
            try simp (maxSteps := 1000000) [go_sem, wp1]
            have gb14 := gs4.get (pget gp3 gb14) (by omega)
            have gb6 := gs4.get gb6 (by omega)
            have gle4 : H2.length <= G4.length := Nat.le_trans (gle3) (gs4.1)
            have gsm4 : Same (fun j => j = s) H2 G4 := gsm3.trans gs4
            try simp (maxSteps := 1000000) [go_sem, wp1]
            refine pick_ok gS4 (xs := [2, (p : Int), (p : Int) - 1]) gb14 (by omega) (by simp) (by simp) _ ?_
            intro G5 r15 gs5 gl5 gS5 r15m
            have gb14 := gs5.get gb14 (by omega)
            have gb6 := gs5.get gb6 (by omega)
            have gle5 : H2.length <= G5.length := Nat.le_trans (gle4) (gs5.1)
            have gsm5 : Same (fun j => j = s) H2 G5 := gsm4.trans gs5
            have zp : G5 <+: G5 ++ [⟨[.int .i64 r2, .int .i64 r7, .int .i64 r15], true, true⟩] := List.prefix_append _ _
            have zc : cellsAt (G5 ++ [(⟨[.int .i64 r2, .int .i64 r7, .int .i64 r15], true, true⟩ : Blk)]) G5.length 0 3 = some [.int .i64 r2, .int .i64 r7, .int .i64 r15] := by rw [cellsAt_of (b := ⟨[.int .i64 r2, .int .i64 r7, .int .i64 r15], true, true⟩) (by simp) rfl (by simp)]; rfl
            have zv := (hv2.keep gsm5 (fun j hj e => by omega)).pre zp
            obtain ⟨v9, H9, zap, ze, zk, zl⟩ := zv.append (m := 1) (news := [.int .i64 r2, .int .i64 r7, .int .i64 r15]) (by omega) (by have := zp.length_le; omega) rfl
            obtain ⟨sl9, rfl⟩ := ze.shape
            obtain ⟨f1, f2, f3, f4⟩ := last _ H9 r2 r7 r15 sl9 (gsm5.trans (Same.of_prefix zp)) (gS5.pre zp) zk zl ze ⟨r20, r21⟩ r7m r15m
            simp (maxSteps := 1000000) [go_sem, wp1, zc, zap, f1, f2, f4]
            exact andK_intro (by omega) f3
        · try simp (maxSteps := 1000000) [go_sem, wp1]
          refine next_ok hS2 _ ?_
          intro G1 r2 gs1 gl1 gS1 r20 r21
          have gk1 : KeepS (fun i => i ≠ s /\ i < H2.length) H2 G1 := fun i hi => gs1.2 i (by have := Nat.le_refl H2.length; omega) hi.1
          try simp (maxSteps := 1000000) [go_sem, wp1]
          refine andK_intro gk1 ?_
          try simp (maxSteps := 1000000) [go_sem, wp1]
          have gle1 : H2.length <= G1.length := Nat.le_trans (Nat.le_refl H2.length) (gs1.1)
          have gsm1 : Same (fun j => j = s) H2 G1 := (Same.refl (fun j => j = s) H2).trans gs1
          refine vGS_alt ?_ ?_
          · have gp2 : G1 <+: G1 ++ [⟨[.int .i64 2, .int .i64 p, .int .i64 ((p : Int) - 1)], true, true⟩] := List.prefix_append _ _
            have gb14 : (G1 ++ [(⟨[.int .i64 2, .int .i64 p, .int .i64 ((p : Int) - 1)], true, true⟩ : Blk)])[G1.length]? = some ⟨ints [2, (p : Int), (p : Int) - 1], true, true⟩ := by simp [ints]
            have gn14 : G1.length ≠ s := by have := gle1; omega
            have gk2 : KeepS (fun i => i ≠ s /\ i < H2.length) G1 (G1 ++ [⟨[.int .i64 2, .int .i64 p, .int .i64 ((p : Int) - 1)], true, true⟩]) := fun i hi => List.getElem?_append_left (by have := gle1; omega)
            try simp (maxSteps := 1000000) [go_sem, wp1]
            rw [show G1 ++ [(⟨[.int .i64 2, .int .i64 p, .int .i64 ((p : Int) - 1)], true, true⟩ : Blk), ⟨[.int .i64 1, .int .i64 2, .int .i64 p], true, true⟩] = (G1 ++ [(⟨[.int .i64 2, .int .i64 p, .int .i64 ((p : Int) - 1)], true, true⟩ : Blk)]) ++ [⟨[.int .i64 1, .int .i64 2, .int .i64 p], true, true⟩] by simp]
            have gz2 : (G1 ++ [(⟨[.int .i64 2, .int .i64 p, .int .i64 ((p : Int) - 1)], true, true⟩ : Blk)]).length = G1.length + 1 := by simp
            generalize G1 ++ [(⟨[.int .i64 2, .int .i64 p, .int .i64 ((p : Int) - 1)], true, true⟩ : Blk)] = G2 at gp2 gb14 gk2 gz2 ⊢
            refine andK_intro gk2 ?_
            have gle2 : H2.length <= G2.length := Nat.le_trans (gle1) (gp2.length_le)
            have gsm2 : Same (fun j => j = s) H2 G2 := gsm1.trans (Same.of_prefix gp2)
            have gp3 : G2 <+: G2 ++ [⟨[.int .i64 1, .int .i64 2, .int .i64 p], true, true⟩] := List.prefix_append _ _
            have gb6 : (G2 ++ [(⟨[.int .i64 1, .int .i64 2, .int .i64 p], true, true⟩ : Blk)])[G2.length]? = some ⟨ints [1, 2, (p : Int)], true, true⟩ := by simp [ints]
            have gn6 : G2.length ≠ s := by have := gle2; omega
            have gk3 : KeepS (fun i => i ≠ s /\ i < H2.length) G2 (G2 ++ [⟨[.int .i64 1, .int .i64 2, .int .i64 p], true, true⟩]) := fun i hi => List.getElem?_append_left (by have := gle2; omega)
            generalize G2 ++ [(⟨[.int .i64 1, .int .i64 2, .int .i64 p], true, true⟩ : Blk)] = G3 at gp3 gb6 gk3 ⊢
            rw [gz2] at gb6 gn6
            refine andK_intro gk3 ?_
            have gle3 : H2.length <= G3.length := Nat.le_trans (gle2) (gp3.length_le)
            have gsm3 : Same (fun j => j = s) H2 G3 := gsm2.trans (Same.of_prefix gp3)
            try simp (maxSteps := 1000000) [go_sem, wp1]
            refine pick_ok ((gS1.pre gp2).pre gp3) (xs := [1, 2, (p : Int)]) gb6 (by omega) (by simp) (by simp) _ ?_
            intro G4 r7 gs4 gl4 gS4 r7m
            have gk4 : KeepS (fun i => i ≠ s /\ i < H2.length) G3 G4 := fun i hi => gs4.2 i (by have := gle3; omega) hi.1
            try simp (maxSteps := 1000000) [go_sem, wp1]
            refine andK_intro gk4 ?_
            try simp (maxSteps := 1000000) [go_sem, wp1]
            have gb14 := gs4.get (pget gp3 gb14) (by omega)
            have gb6 := gs4.get gb6 (by omega)
            have gle4 : H2.length <= G4.length := Nat.le_trans (gle3) (gs4.1)
            have gsm4 : Same (fun j => j = s) H2 G4 := gsm3.trans gs4
            try simp (maxSteps := 1000000) [go_sem, wp1]
            refine pick_ok gS4 (xs := [2, (p : Int), (p : Int) - 1]) gb14 (by omega) (by simp) (by simp) _ ?_
            intro G5 r15 gs5 gl5 gS5 r15m
            have gb14 := gs5.get gb14 (by omega)
            have gb6 := gs5.get gb6 (by omega)
            have gle5 : H2.length <= G5.length := Nat.le_trans (gle4) (gs5.1)
            have gsm5 : Same (fun j => j = s) H2 G5 := gsm4.trans gs5
            have zp : G5 <+: G5 ++ [⟨[.int .i64 r2, .int .i64 r7, .int .i64 r15], true, true⟩] := List.prefix_append _ _
            have zc : cellsAt (G5 ++ [(⟨[.int .i64 r2, .int .i64 r7, .int .i64 r15], true, true⟩ : Blk)]) G5.length 0 3 = some [.int .i64 r2, .int .i64 r7, .int .i64 r15] := by rw [cellsAt_of (b := ⟨[.int .i64 r2, .int .i64 r7, .int .i64 r15], true, true⟩) (by simp) rfl (by simp)]; rfl
            have zv := (hv2.keep gsm5 (fun j hj e => by omega)).pre zp
            obtain ⟨v9, H9, zap, ze, zk, zl⟩ := zv.append (m := 1) (news := [.int .i64 r2, .int .i64 r7, .int .i64 r15]) (by omega) (by have := zp.length_le; omega) rfl
            obtain ⟨sl9, rfl⟩ := ze.shape
            obtain ⟨f1, f2, f3, f4⟩ := last _ H9 r2 r7 r15 sl9 (gsm5.trans (Same.of_prefix zp)) (gS5.pre zp) zk zl ze ⟨r20, r21⟩ r7m r15m
            simp (maxSteps := 1000000) [go_sem, wp1, zc, zap, f1, f2, f4]
            exact andK_intro (by omega) f3
          · have gp2 : G1 <+: G1 ++ [⟨[.int .i64 1, .int .i64 2, .int .i64 p], true, true⟩] := List.prefix_append _ _
            have gb6 : (G1 ++ [(⟨[.int .i64 1, .int .i64 2, .int .i64 p], true, true⟩ : Blk)])[G1.length]? = some ⟨ints [1, 2, (p : Int)], true, true⟩ := by simp [ints]
            have gn6 : G1.length ≠ s := by have := gle1; omega
            have gk2 : KeepS (fun i => i ≠ s /\ i < H2.length) G1 (G1 ++ [⟨[.int .i64 1, .int .i64 2, .int .i64 p], true, true⟩]) := fun i hi => List.getElem?_append_left (by have := gle1; omega)
            try simp (maxSteps := 1000000) [go_sem, wp1]
            generalize G1 ++ [(⟨[.int .i64 1, .int .i64 2, .int .i64 p], true, true⟩ : Blk)] = G2 at gp2 gb6 gk2 ⊢
            refine andK_intro gk2 ?_
            have gle2 : H2.length <= G2.length := Nat.le_trans (gle1) (gp2.length_le)
            have gsm2 : Same (fun j => j = s) H2 G2 := gsm1.trans (Same.of_prefix gp2)
            refine vGS_alt ?_ ?_
            · have gp3 : G2 <+: G2 ++ [⟨[.int .i64 2, .int .i64 p, .int .i64 ((p : Int) - 1)], true, true⟩] := List.prefix_append _ _
              have gb14 : (G2 ++ [(⟨[.int .i64 2, .int .i64 p, .int .i64 ((p : Int) - 1)], true, true⟩ : Blk)])[G2.length]? = some ⟨ints [2, (p : Int), (p : Int) - 1], true, true⟩ := by simp [ints]
              have gn14 : G2.length ≠ s := by have := gle2; omega
              have gk3 : KeepS (fun i => i ≠ s /\ i < H2.length) G2 (G2 ++ [⟨[.int .i64 2, .int .i64 p, .int .i64 ((p : Int) - 1)], true, true⟩]) := fun i hi => List.getElem?_append_left (by have := gle2; omega)
              try simp (maxSteps := 1000000) [go_sem, wp1]
              generalize G2 ++ [(⟨[.int .i64 2, .int .i64 p, .int .i64 ((p : Int) - 1)], true, true⟩ : Blk)] = G3 at gp3 gb14 gk3 ⊢
              refine andK_intro gk3 ?_
              have gle3 : H2.length <= G3.length := Nat.le_trans (gle2) (gp3.length_le)
              have gsm3 : Same (fun j => j = s) H2 G3 := gsm2.trans (Same.of_prefix gp3)
              try simp (maxSteps := 1000000) [go_sem, wp1]
              refine pick_ok ((gS1.pre gp2).pre gp3) (xs := [1, 2, (p : Int)]) (pget gp3 gb6) (by omega) (by simp) (by simp) _ ?_
              intro G4 r7 gs4 gl4 gS4 r7m
              have gk4 : KeepS (fun i => i ≠ s /\ i < H2.length) G3 G4 := fun i hi => gs4.2 i (by have := gle3; omega) hi.1
              try simp (maxSteps := 1000000) [go_sem, wp1]
              refine andK_intro gk4 ?_
              try simp (maxSteps := 1000000) [go_sem, wp1]
              have gb6 := gs4.get (pget gp3 gb6) (by omega)
              have gb14 := gs4.get gb14 (by omega)
              have gle4 : H2.length <= G4.length := Nat.le_trans (gle3) (gs4.1)
              have gsm4 : Same (fun j => j = s) H2 G4 := gsm3.trans gs4
              try simp (maxSteps := 1000000) [go_sem, wp1]
              refine pick_ok gS4 (xs := [2, (p : Int), (p : Int) - 1]) gb14 (by omega) (by simp) (by simp) _ ?_
              intro G5 r15 gs5 gl5 gS5 r15m
              have gb6 := gs5.get gb6 (by omega)
              have gb14 := gs5.get gb14 (by omega)
              have gle5 : H2.length <= G5.length := Nat.le_trans (gle4) (gs5.1)
              have gsm5 : Same (fun j => j = s) H2 G5 := gsm4.trans gs5
              have zp : G5 <+: G5 ++ [⟨[.int .i64 r2, .int .i64 r7, .int .i64 r15], true, true⟩] := List.prefix_append _ _
              have zc : cellsAt (G5 ++ [(⟨[.int .i64 r2, .int .i64 r7, .int .i64 r15], true, true⟩ : Blk)]) G5.length 0 3 = some [.int .i64 r2, .int .i64 r7, .int .i64 r15] := by rw [cellsAt_of (b := ⟨[.int .i64 r2, .int .i64 r7, .int .i64 r15], true, true⟩) (by simp) rfl (by simp)]; rfl
              have zv := (hv2.keep gsm5 (fun j hj e => by omega)).pre zp
              obtain ⟨v9, H9, zap, ze, zk, zl⟩ := zv.append (m := 1) (news := [.int .i64 r2, .int .i64 r7, .int .i64 r15]) (by omega) (by have := zp.length_le; omega) rfl
              obtain ⟨sl9, rfl⟩ := ze.shape
              obtain ⟨f1, f2, f3, f4⟩ := last _ H9 r2 r7 r15 sl9 (gsm5.trans (Same.of_prefix zp)) (gS5.pre zp) zk zl ze ⟨r20, r21⟩ r7m r15m
              simp (maxSteps := 1000000) [go_sem, wp1, zc, zap, f1, f2, f4]
              exact andK_intro (by omega) f3
            · try simp (maxSteps := 1000000) [go_sem, wp1]
              refine pick_ok (gS1.pre gp2) (xs := [1, 2, (p : Int)]) gb6 (by omega) (by simp) (by simp) _ ?_
              intro G3 r7 gs3 gl3 gS3 r7m
              have gk3 : KeepS (fun i => i ≠ s /\ i < H2.length) G2 G3 := fun i hi => gs3.2 i (by have := gle2; omega) hi.1
              try simp (maxSteps := 1000000) [go_sem, wp1]
              refine andK_intro gk3 ?_
              try simp (maxSteps := 1000000) [go_sem, wp1]
              have gb6 := gs3.get gb6 (by omega)
              have gle3 : H2.length <= G3.length := Nat.le_trans (gle2) (gs3.1)
              have gsm3 : Same (fun j => j = s) H2 G3 := gsm2.trans gs3
              have gp4 : G3 <+: G3 ++ [⟨[.int .i64 2, .int .i64 p, .int .i64 ((p : Int) - 1)], true, true⟩] := List.prefix_append _ _
              have gb14 : (G3 ++ [(⟨[.int .i64 2, .int .i64 p, .int .i64 ((p : Int) - 1)], true, true⟩ : Blk)])[G3.length]? = some ⟨ints [2, (p : Int), (p : Int) - 1], true, true⟩ := by simp [ints]
              have gn14 : G3.length ≠ s := by have := gle3; omega
              have gk4 : KeepS (fun i => i ≠ s /\ i < H2.length) G3 (G3 ++ [⟨[.int .i64 2, .int .i64 p, .int .i64 ((p : Int) - 1)], true, true⟩]) := fun i hi => List.getElem?_append_left (by have := gle3; omega)
              try simp (maxSteps := 1000000) [go_sem, wp1]
              generalize G3 ++ [(⟨[.int .i64 2, .int .i64 p, .int .i64 ((p : Int) - 1)], true, true⟩ : Blk)] = G4 at gp4 gb14 gk4 ⊢
              refine andK_intro gk4 ?_
              have gle4 : H2.length <= G4.length := Nat.le_trans (gle3) (gp4.length_le)
              have gsm4 : Same (fun j => j = s) H2 G4 := gsm3.trans (Same.of_prefix gp4)
              try simp (maxSteps := 1000000) [go_sem, wp1]
              refine pick_ok (gS3.pre gp4) (xs := [2, (p : Int), (p : Int) - 1]) gb14 (by omega) (by simp) (by simp) _ ?_
              intro G5 r15 gs5 gl5 gS5 r15m
              have gb6 := gs5.get (pget gp4 gb6) (by omega)
              have gb14 := gs5.get gb14 (by omega)
              have gle5 : H2.length <= G5.length := Nat.le_trans (gle4) (gs5.1)
              have gsm5 : Same (fun j => j = s) H2 G5 := gsm4.trans gs5
              have zp : G5 <+: G5 ++ [⟨[.int .i64 r2, .int .i64 r7, .int .i64 r15], true, true⟩] := List.prefix_append _ _
              have zc : cellsAt (G5 ++ [(⟨[.int .i64 r2, .int .i64 r7, .int .i64 r15], true, true⟩ : Blk)]) G5.length 0 3 = some [.int .i64 r2, .int .i64 r7, .int .i64 r15] := by rw [cellsAt_of (b := ⟨[.int .i64 r2, .int .i64 r7, .int .i64 r15], true, true⟩) (by simp) rfl (by simp)]; rfl
              have zv := (hv2.keep gsm5 (fun j hj e => by omega)).pre zp
              obtain ⟨v9, H9, zap, ze, zk, zl⟩ := zv.append (m := 1) (news := [.int .i64 r2, .int .i64 r7, .int .i64 r15]) (by omega) (by have := zp.length_le; omega) rfl
              obtain ⟨sl9, rfl⟩ := ze.shape
              obtain ⟨f1, f2, f3, f4⟩ := last _ H9 r2 r7 r15 sl9 (gsm5.trans (Same.of_prefix zp)) (gS5.pre zp) zk zl ze ⟨r20, r21⟩ r7m r15m
              simp (maxSteps := 1000000) [go_sem, wp1, zc, zap, f1, f2, f4]
              exact andK_intro (by omega) f3
    · have b1 : (q == 1) = false := by simpa using c1
      by_cases c2 : q = 2
      · subst c2
        obtain ⟨a0, a1, a2, a3⟩ := sys_cells hx2 oneu
        by_cases hn : 1 < bs.length
        · rcases hv2.2 with ⟨e0, _⟩ | ⟨_, e0, _⟩ | ⟨id, hge, e, hb⟩
          · omega
          · omega
          have hb : H2[id]? = some ⟨tri bs, true, true⟩ := hb.resolve_left (fun e => by omega)
          simp at e
          subst e
          obtain ⟨x0, x1, rest, er⟩ : ∃ x0 x1 rest, bs = x0 :: x1 :: rest := by
            match bs, hn with
            | x0 :: x1 :: rest, _ => exact ⟨x0, x1, rest, rfl⟩
          have hhb : Holds H2 id (tri bs) := ⟨true, hb⟩
          have l0 := hhb.cells (o := 0) (n := 3) (by rw [tri_length]; omega)
          have l1 := hhb.cells (o := 3) (n := 3) (by rw [tri_length]; omega)
          rw [er] at l0 l1
          simp [tri, Bk.cells] at l0 l1
          have hn1 : (1 : Int) < bs.length := by omega
          have hn0 : 0 < bs.length := by omega
          have hbl : (tri bs).length = bs.length * 3 := tri_length bs
          have hidl := (List.getElem?_eq_some_iff.1 hb).1
          have hp3 : H2 <+: H2 ++ [⟨[.int .i64 x0.a, .int .i64 x0.b, .int .i64 x0.c], true, true⟩] := List.prefix_append _ _
          have hb3 : (H2 ++ [(⟨[.int .i64 x0.a, .int .i64 x0.b, .int .i64 x0.c], true, true⟩ : Blk)])[id]? = some ⟨tri (x0 :: x1 :: rest), true, true⟩ := by rw [<- er]; exact pget hp3 hb
          have ht3 : (H2 ++ [(⟨[.int .i64 x0.a, .int .i64 x0.b, .int .i64 x0.c], true, true⟩ : Blk)])[H2.length]? = some ⟨[.int .i64 x0.a, .int .i64 x0.b, .int .i64 x0.c], true, true⟩ := by simp
          simp (maxSteps := 1000000) [go_sem, hn, hn1, hn0, l0]
          generalize H2 ++ [(⟨[.int .i64 x0.a, .int .i64 x0.b, .int .i64 x0.c], true, true⟩ : Blk)] = H3 at hp3 hb3 ht3 ⊢
          have l3 : cellsAt H3 id 3 3 = some [.int .i64 x1.a, .int .i64 x1.b, .int .i64 x1.c] := cellsAt_pre hp3 l1
          have s1 : storeAt H3 id 0 [.int .i64 x1.a, .int .i64 x1.b, .int .i64 x1.c] = some (H3.set id ⟨tri (x1 :: x1 :: rest), true, true⟩) := by
            rw [storeAt_of hb3 rfl rfl (by simp [tri, Bk.cells]) (by simp [one_int])]; simp [over, tri, Bk.cells]
          have hlt3 := (List.getElem?_eq_some_iff.1 hb3).1
          have s2 : storeAt (H3.set id ⟨tri (x1 :: x1 :: rest), true, true⟩) id 3 [.int .i64 x0.a, .int .i64 x0.b, .int .i64 x0.c] = some (H3.set id ⟨tri (x1 :: x0 :: rest), true, true⟩) := by
            rw [storeAt_of (List.getElem?_set_self hlt3) rfl rfl (by simp [tri, Bk.cells]) (by simp [one_int])]; simp [over, tri, Bk.cells]
          have t3 : cellsAt (H3.set id ⟨tri (x1 :: x1 :: rest), true, true⟩) H2.length 0 3 = some [.int .i64 x0.a, .int .i64 x0.b, .int .i64 x0.c] := by
            rw [cellsAt_of (b := ⟨[.int .i64 x0.a, .int .i64 x0.b, .int .i64 x0.c], true, true⟩) (by rw [List.getElem?_set_ne (by omega)]; exact ht3) rfl (by simp)]; rfl
          have hs5 : Same (fun j => j = id) H3 (H3.set id ⟨tri (x1 :: x0 :: rest), true, true⟩) := same_set2
          have hb5 : (H3.set id ⟨tri (x1 :: x0 :: rest), true, true⟩)[id]? = some ⟨tri (x1 :: x0 :: rest), true, true⟩ := List.getElem?_set_self hlt3
          have hx5 := hs5.get (pget hp3 hx2) (by omega)
          have hr5 := hs5.get (pget hp3 hr2) (by omega)
          have hln : bs.length = (x1 :: x0 :: rest).length := by rw [er]; rfl
          have hwild2 : Wild p (x1 :: x0 :: rest) := ⟨hwild.pts, by rw [<- hln]; exact hwild.len, fun b hb => hwild.nums b (by rw [er]; simp at hb ⊢; rcases hb with h | h | h <;> simp [h])⟩
          have fin5 := fin (H3.set id ⟨tri (x1 :: x0 :: rest), true, true⟩) p (lv 3 id 0 bs.length) (x1 :: x0 :: rest) (sameUp (hsm2.trans (Same.of_prefix hp3)) hs5 (fun j e => by omega)) ((hS2.pre hp3).keep hs5 (fun j e => ⟨by omega, by omega⟩)) hr5
            (by rw [hln]; exact ⟨by rw [tri_length], .inr (.inr ⟨id, hge, rfl, .inr hb5⟩)⟩) hwild2
          obtain ⟨a0, a1, a2, a3⟩ := sys_cells hx5 oneu
          generalize H3.set id ⟨tri (x1 :: x0 :: rest), true, true⟩ = H5 at *
          generalize H3.set id ⟨tri (x1 :: x1 :: rest), true, true⟩ = H4 at *
          obtain ⟨f1, f2, f3⟩ := fin5
          have hn1' : 1 < bs.length := hn
          simp (maxSteps := 1000000) [go_sem, hn, hn1, hn0, l3, s1, s2, t3, a1, f1, f2]
          exact f3
        · have hn1 : ¬ (1 : Int) < bs.length := by omega
          obtain ⟨f1, f2, f3⟩ := fin H2 p _ bs hsm2 hS2 hr2 hv2 hwild
          simp (maxSteps := 1000000) [go_sem, hn, hn1, a1, f1, f2]
          exact f3
      · have b2 : (q == 2) = false := by simpa using c2
        obtain ⟨a0, a1, a2, a3⟩ := sys_cells hx2 oneu
        obtain ⟨r0, r1, r2, r3⟩ := sys_cells hr2 rfl
        have r3' := r3 p _ oneu
        have hs4 : Same (fun j => j = H.length + 1) H2 (H2.set (H.length + 1) ⟨[.int .i64 p, lv 3 ui 0 bs.length], true, true⟩) := same_set2
        have hr4 : (H2.set (H.length + 1) ⟨[.int .i64 p, lv 3 ui 0 bs.length], true, true⟩)[H.length + 1]? = some ⟨[.int .i64 p, lv 3 ui 0 bs.length], true, true⟩ := List.getElem?_set_self (List.getElem?_eq_some_iff.1 hr2).1
        have hsm4 := sameUp hsm2 hs4 (fun j e => by omega)
        have fin4 := h _ p _ bs hsm4 (hS2.keep hs4 (fun j e => ⟨by omega, by omega⟩)) (hu.keep hsm4 (fun j hj e => by omega)) hwild
        generalize H2.set (H.length + 1) ⟨[.int .i64 p, lv 3 ui 0 bs.length], true, true⟩ = H4 at *
        obtain ⟨y0, y1, y2, y3⟩ := sys_cells hr4 oneu
        simp (maxSteps := 1000000) [go_sem, b0, b1, b2, a0, r3', y0]
        exact ⟨_, Up.refl _ _, fin4⟩

end Go.Proofs.YtfnegaedkomcgaaGreat
end

section
namespace Go.Proofs.YtfnegaedkomcgaaGreat
open Go.Ab

theorem spoil_ok {L s : Nat} {H : Heap} (hs : Src L s H) (Post : Value -> Heap -> Prop)
    (h : ∀ (H' : Heap) (q : Int) (w : Value) (cs : List Bk), Same (fun j => j = s) H H' -> Src L s H' -> BIn H.length H' w cs -> Wild q cs -> Post (sysV q w) H') :
    ACalls Tryz.prog 47 [.pointer (some ⟨s, 0, none⟩)] H Post := by
  have hslt := hs.lt
  refine acalls_vc (rs := [.cell 2 26]) Tryz.func47 rfl rfl Tryz.ntmps47 rfl rfl ?_
  simp (maxSteps := 1000000) [go_sem]
  have hp0 : H <+: H ++ [⟨[.int .i64 0, .slice none 0 0], true, true⟩] := List.prefix_append _ _
  have hr0 : (H ++ [(⟨[.int .i64 0, .slice none 0 0], true, true⟩ : Blk)])[H.length]? = some ⟨[.int .i64 0, .slice none 0 0], true, true⟩ := by simp
  have hl0 : (H ++ [(⟨[.int .i64 0, .slice none 0 0], true, true⟩ : Blk)]).length = H.length + 1 := by simp
  generalize H ++ [(⟨[.int .i64 0, .slice none 0 0], true, true⟩ : Blk)] = H0 at hp0 hr0 hl0 ⊢
  refine draw_ok (hs.pre hp0) _ ?_
  intro H1 p w bs hs1 hS1 hw hd hlb
  have hle1 := hs1.1
  have onew := hw.one
  simp (maxSteps := 1000000) [go_sem, sysV]
  refine bad_ok hS1 hw (by omega) hs1.1 hd _ ?_
  intro H2 q z cs hs2 hS2 hz hwd
  have hr2 := hs2.get (hs1.get hr0 (by omega)) (by omega)
  obtain ⟨r0, r1, r2, r3⟩ := sys_cells hr2 rfl
  have r3' := r3 q z hz.one
  have hs3 : Same (fun j => j = H.length) H2 (H2.set H.length ⟨[.int .i64 q, z], true, true⟩) := same_set2
  have hr3 : (H2.set H.length ⟨[.int .i64 q, z], true, true⟩)[H.length]? = some ⟨[.int .i64 q, z], true, true⟩ := List.getElem?_set_self (List.getElem?_eq_some_iff.1 hr2).1
  have fin := h _ q z cs (sameUp (((Same.of_prefix hp0).trans hs1).trans hs2) hs3 (fun j e => by omega)) (hS2.keep hs3 (fun j e => ⟨by have := hs.1; omega, by omega⟩)) ((hz.keep hs3 (fun j hj e => by omega)).wider (by omega)) hwd
  generalize H2.set H.length ⟨[.int .i64 q, z], true, true⟩ = H3 at *
  obtain ⟨y0, y1, y2, y3⟩ := sys_cells hr3 hz.one
  simp (maxSteps := 1000000) [go_sem, sysV, r3', y0]
  exact fin

theorem drawDouble_ok {H : Heap} {u : Value} {xs : List Int} (hu : BytesAt H u xs) (Post : Value -> Heap -> Prop)
    (h : ∀ (H' : Heap) (q : Int) (w : Value) (cs : List Bk), H <+: H' -> BIn H.length H' w cs -> Wild q cs -> Post (sysV q w) H') :
    ACalls Tryz.prog 7 [u] H Post := by
  refine acalls_vc (rs := [.cell 2 26]) Tryz.func7 rfl rfl Tryz.ntmps7 rfl rfl ?_
  simp (maxSteps := 1000000) [go_sem]
  have hp0 : H <+: H ++ [⟨[.int .i64 0, .slice none 0 0], true, true⟩] := List.prefix_append _ _
  have hr0 : (H ++ [(⟨[.int .i64 0, .slice none 0 0], true, true⟩ : Blk)])[H.length]? = some ⟨[.int .i64 0, .slice none 0 0], true, true⟩ := by simp
  have hl0 : (H ++ [(⟨[.int .i64 0, .slice none 0 0], true, true⟩ : Blk)]).length = H.length + 1 := by simp
  generalize H ++ [(⟨[.int .i64 0, .slice none 0 0], true, true⟩ : Blk)] = H0 at hp0 hr0 hl0 ⊢
  refine from_ok (hu.pre hp0) _ ?_
  intro H1 hp1 hl1 hS1
  have hr1 := pget hp1 hr0
  simp (maxSteps := 1000000) [go_sem]
  refine next_ok hS1 _ ?_
  intro H2 k hs2 hl2 hS2 hk0 hk1
  have hr2 := hs2.get hr1 (by omega)
  have hsm2 : Same (fun j => j = H0.length) H0 H2 := (Same.of_prefix hp1).trans hs2
  have fin : ∀ (H3 : Heap) (q : Int) (z : Value) (cs : List Bk), Same (fun j => j = H0.length) H2 H3 -> BIn H2.length H3 z cs -> Wild q cs ->
      storeAt H3 H.length 0 [.int .i64 q, z] = some (H3.set H.length ⟨[.int .i64 q, z], true, true⟩) /\ cellsAt (H3.set H.length ⟨[.int .i64 q, z], true, true⟩) H.length 0 2 = some [.int .i64 q, z] /\ Post (sysV q z) (H3.set H.length ⟨[.int .i64 q, z], true, true⟩) := by
    intro H3 q z cs e1 e2 e3
    have hr3 := e1.get hr2 (by omega)
    obtain ⟨r0, r1, r2, r3⟩ := sys_cells hr3 rfl
    have hs4 : Same (fun j => j = H.length) H3 (H3.set H.length ⟨[.int .i64 q, z], true, true⟩) := same_set2
    have hr4 : (H3.set H.length ⟨[.int .i64 q, z], true, true⟩)[H.length]? = some ⟨[.int .i64 q, z], true, true⟩ := List.getElem?_set_self (List.getElem?_eq_some_iff.1 hr3).1
    refine ⟨r3 q z e2.one, (sys_cells hr4 e2.one).1, h _ q z cs ?_ ((e2.keep hs4 (fun j hj e => by omega)).wider (by omega)) e3⟩
    exact Same.prefix (S := fun j => j = H.length \/ j = H0.length) ((((Same.of_prefix hp0).trans (hsm2.mono fun j _ e => .inr e)).trans (e1.mono fun j _ e => .inr e)).trans (hs4.mono fun j _ e => .inl e)) (fun j hj e => by omega)
  by_cases c : k = 0
  · subst c
    simp (maxSteps := 1000000) [go_sem]
    refine drawFull_ok hS2 _ ?_
    intro H3 p w bs hs3 hS3 hw hd hlb
    obtain ⟨f1, f2, f3⟩ := fin H3 p w bs hs3 hw hd.wild
    simp (maxSteps := 1000000) [go_sem, sysV, f1, f2]
    exact f3
  · have b0 : (k == 0) = false := by simpa using c
    simp (maxSteps := 1000000) [go_sem, b0]
    refine spoil_ok hS2 _ ?_
    intro H3 q w cs hs3 hS3 hw hd
    obtain ⟨f1, f2, f3⟩ := fin H3 q w cs hs3 hw hd
    simp (maxSteps := 1000000) [go_sem, sysV, f1, f2]
    exact f3

theorem drawProduct_ok {H : Heap} {u : Value} {xs : List Int} (hu : BytesAt H u xs) (Post : Value -> Heap -> Prop)
    (h : ∀ (H' : Heap) (p q : Int) (w z : Value) (bs cs : List Bk), H <+: H' -> BIn H.length H' w bs -> Wild p bs -> BIn H.length H' z cs -> Wild q cs -> Post (.tuple #[sysV p w, sysV q z]) H') :
    ACalls Tryz.prog 11 [u] H Post := by
  refine acalls_vc (rs := [.cell 2 26, .cell 3 26]) Tryz.func11 rfl rfl Tryz.ntmps11 rfl rfl ?_
  simp (maxSteps := 1000000) [go_sem]
  have hp0 : H <+: H ++ [⟨[.int .i64 0, .slice none 0 0], true, true⟩, ⟨[.int .i64 0, .slice none 0 0], true, true⟩] := List.prefix_append _ _
  have hr0 : (H ++ [(⟨[.int .i64 0, .slice none 0 0], true, true⟩ : Blk), ⟨[.int .i64 0, .slice none 0 0], true, true⟩])[H.length]? = some ⟨[.int .i64 0, .slice none 0 0], true, true⟩ := by simp
  have ht0 : (H ++ [(⟨[.int .i64 0, .slice none 0 0], true, true⟩ : Blk), ⟨[.int .i64 0, .slice none 0 0], true, true⟩])[H.length + 1]? = some ⟨[.int .i64 0, .slice none 0 0], true, true⟩ := by simp
  have hl0 : (H ++ [(⟨[.int .i64 0, .slice none 0 0], true, true⟩ : Blk), ⟨[.int .i64 0, .slice none 0 0], true, true⟩]).length = H.length + 2 := by simp
  generalize H ++ [(⟨[.int .i64 0, .slice none 0 0], true, true⟩ : Blk), ⟨[.int .i64 0, .slice none 0 0], true, true⟩] = H0 at hp0 hr0 ht0 hl0 ⊢
  refine from_ok (hu.pre hp0) _ ?_
  intro H1 hp1 hl1 hS1
  simp (maxSteps := 1000000) [go_sem]
  refine l01Named_ok (s := ⟨#[115, 105, 110, 103, 108, 101]⟩) _ ?_
  intro H2 w1 hp2 hw1
  obtain ⟨hd1, hlb1⟩ := goodL_drawn (named_good _ (strs6_in ⟨#[115, 105, 110, 103, 108, 101]⟩ (by simp [strs6])))
  generalize (rNamed (⟨#[115, 105, 110, 103, 108, 101]⟩ : ByteArray).toList).1.2 = bs1 at *
  generalize (rNamed (⟨#[115, 105, 110, 103, 108, 101]⟩ : ByteArray).toList).1.1 = p1 at *
  have onew := hw1.one
  have hle2 := hp2.length_le
  simp (maxSteps := 1000000) [go_sem, sysV, onew]
  have hp3 : H2 <+: H2 ++ [⟨[.int .i64 p1, w1], true, true⟩] := List.prefix_append _ _
  have hx3 : (H2 ++ [(⟨[.int .i64 p1, w1], true, true⟩ : Blk)])[H2.length]? = some ⟨[.int .i64 p1, w1], true, true⟩ := by simp
  have hl3 : (H2 ++ [(⟨[.int .i64 p1, w1], true, true⟩ : Blk)]).length = H2.length + 1 := by simp
  generalize H2 ++ [(⟨[.int .i64 p1, w1], true, true⟩ : Blk)] = H3 at hp3 hx3 hl3 ⊢
  have hw3 : BIn (H.length + 3) H3 w1 bs1 := ⟨_, (hw1.pre hp3).wider (by omega)⟩
  refine next_ok (hS1.pre (hp2.trans hp3)) _ ?_
  intro H4 k hs4 hl4 hS4 hk0 hk1
  have hx4 := hs4.get hx3 (by omega)
  have hp13 := (hp1.trans hp2).trans hp3
  have hr4 := hs4.get (pget hp13 hr0) (by omega)
  have ht4 := hs4.get (pget hp13 ht0) (by omega)
  have hw4 := hw3.keep hs4 (fun j hj e => by omega)
  have hsm4 : Same (fun j => j = H0.length) H0 H4 := (Same.of_prefix hp13).trans hs4
  have fin : ∀ (H5 : Heap) (p q : Int) (w z : Value) (bs cs : List Bk), Same (fun j => j = H0.length) H4 H5 -> BIn (H.length + 3) H5 w bs -> Wild p bs -> BIn (H.length + 3) H5 z cs -> Wild q cs ->
      ∃ H6 H7, storeAt H5 H.length 0 [.int .i64 p, w] = some H6 /\ storeAt H6 (H.length + 1) 0 [.int .i64 q, z] = some H7 /\ cellsAt H7 H.length 0 2 = some [.int .i64 p, w] /\ cellsAt H7 (H.length + 1) 0 2 = some [.int .i64 q, z] /\ Post (.tuple #[sysV p w, sysV q z]) H7 /\ (∀ k, k ≠ H.length -> H6[k]? = H5[k]?) := by
    intro H5 p q w z bs cs e1 e2 e3 e4 e5
    have hr5 := e1.get hr4 (by omega)
    have ht5 := e1.get ht4 (by omega)
    have hs6 : Same (fun j => j = H.length) H5 (H5.set H.length ⟨[.int .i64 p, w], true, true⟩) := same_set2
    have hr6 : (H5.set H.length ⟨[.int .i64 p, w], true, true⟩)[H.length]? = some ⟨[.int .i64 p, w], true, true⟩ := List.getElem?_set_self (List.getElem?_eq_some_iff.1 hr5).1
    have ht6 := hs6.get ht5 (by omega)
    have f1 := (sys_cells hr5 rfl).2.2.2 p w e2.one
    have fk : ∀ k, k ≠ H.length -> (H5.set H.length ⟨[.int .i64 p, w], true, true⟩)[k]? = H5[k]? := fun k hk => List.getElem?_set_ne (fun e => hk e.symm)
    generalize H5.set H.length ⟨[.int .i64 p, w], true, true⟩ = H6 at *
    have hs7 : Same (fun j => j = H.length + 1) H6 (H6.set (H.length + 1) ⟨[.int .i64 q, z], true, true⟩) := same_set2
    have ht7 : (H6.set (H.length + 1) ⟨[.int .i64 q, z], true, true⟩)[H.length + 1]? = some ⟨[.int .i64 q, z], true, true⟩ := List.getElem?_set_self (List.getElem?_eq_some_iff.1 ht6).1
    have hr7 := hs7.get hr6 (by omega)
    have f2 := (sys_cells ht6 rfl).2.2.2 q z e4.one
    have hs57 : Same (fun j => j = H.length \/ j = H.length + 1) H5 (H6.set (H.length + 1) ⟨[.int .i64 q, z], true, true⟩) := (hs6.mono fun j _ e => .inl e).trans (hs7.mono fun j _ e => .inr e)
    refine ⟨H6, _, f1, f2, (sys_cells hr7 e2.one).1, (sys_cells ht7 e4.one).1, h _ p q w z bs cs ?_ ((e2.keep hs57 (fun j hj e => by omega)).wider (by omega)) e3 ((e4.keep hs57 (fun j hj e => by omega)).wider (by omega)) e5, fk⟩
    exact Same.prefix (S := fun j => H.length <= j) ((((Same.of_prefix hp0).trans (hsm4.mono fun j _ e => by omega)).trans (e1.mono fun j _ e => by omega)).trans (hs57.mono fun j _ e => by omega)) (fun j hj e => by omega)
  by_cases c0 : k = 0
  · subst c0
    obtain ⟨a0, a1, a2, a3⟩ := sys_cells hx4 onew
    obtain ⟨H6, H7, f1, f2, f3, f4, f5, fk⟩ := fin H4 p1 p1 w1 w1 bs1 bs1 (Same.refl _ _) hw4 hd1.wild hw4 hd1.wild
    simp (maxSteps := 1000000) [go_sem]
    refine AWp.drawS (fun i => i = H2.length) mixed [(0, false), (1, false), (2, true), (3, false)] (by kernel_rfl) ?_
    have hks : KeepS (fun i => i = H2.length) H4 H6 := fun i hi => fk i (by omega)
    simp (maxSteps := 1000000) [go_sem, a0, f1, f2, f3, f4, hks]
    try exact andK_intro hks f5
    try exact f5
  · have b0 : (k == 0) = false := by simpa using c0
    by_cases c1 : k = 1
    · subst c1
      obtain ⟨a0, a1, a2, a3⟩ := sys_cells hx4 onew
      simp (maxSteps := 1000000) [go_sem]
      refine AWp.drawS (fun i => i = H2.length) mixed [(0, false), (1, false), (2, true), (3, false), (4, false)] (by kernel_rfl) ?_
      simp (maxSteps := 1000000) [go_sem, a0]
      refine spoil_ok hS4 _ ?_
      intro H5 q z cs hs5 hS5 hz hwd
      obtain ⟨H6, H7, f1, f2, f3, f4, f5, fk⟩ := fin H5 p1 q w1 z bs1 cs hs5 (hw4.keep hs5 (fun j hj e => by omega)) hd1.wild (hz.wider (by omega)) hwd
      have hks : KeepS (fun i => i = H2.length) H4 H5 := fun i hi => hs5.2 i (by omega) (by omega)
      simp (maxSteps := 1000000) [go_sem, sysV]
      refine andK_intro hks ?_
      simp (maxSteps := 1000000) [go_sem, f1, f2, f3, f4]
      exact f5
    · have b1 : (k == 1) = false := by simpa using c1
      simp (maxSteps := 1000000) [go_sem, b0, b1]
      refine drawFull_ok hS4 _ ?_
      intro H5 p w bs hs5 hS5 hw hd hlb
      simp (maxSteps := 1000000) [go_sem]
      refine drawFull_ok hS5 _ ?_
      intro H6 q z cs hs6 hS6 hz hdz hlz
      have hle5 := hs5.1
      obtain ⟨H7, H8, f1, f2, f3, f4, f5, fk⟩ := fin H6 p q w z bs cs (hs5.trans hs6) ((hw.keep hs6 (fun j hj e => by omega)).wider (by omega)) hd.wild (hz.wider (by omega)) hdz.wild
      simp (maxSteps := 1000000) [go_sem, sysV, f1, f2, f3, f4]
      exact f5

end Go.Proofs.YtfnegaedkomcgaaGreat
end

section
namespace Go.Ab

theorem Bl.pushN {e : Nat} {H H' : Heap} {id n m : Nat} {cs xs : List Value} (h : Bl e H H' id cs n) (he : 0 < e) (hm : 0 < m) (hx : xs.length = m * e) :
    cellsAt (H' ++ [⟨xs, true, true⟩]) H'.length 0 (m * e) = some xs /\ ∃ H3, appendH (H' ++ [⟨xs, true, true⟩]) e (lv e id 0 n) m xs = some (lv e (H'.length + 1) 0 (n + m), H3) /\ Bl e H H3 (H'.length + 1) (cs ++ xs) (n + m) := by
  have h1 := h.pre (List.prefix_append H' [⟨xs, true, true⟩])
  obtain ⟨H3, h2, h3, h4, h5⟩ := h1.2.1.append he hm hx
  rw [List.length_append, List.length_singleton] at h2 h3 h5
  refine ⟨?_, H3, h2, ((Same.of_prefix h1.1).trans h4).prefix (by intro j hj e; have := h1.2.2; omega), h3, ?_⟩
  · rw [cellsAt_of (b := ⟨xs, true, true⟩) (by simp) rfl (by simp [hx])]
    simp [<- hx]
  · have := h.1.length_le; omega

end Go.Ab
namespace Go.Proofs.YtfnegaedkomcgaaGreat
open Go.Ab Go.Sort

theorem specDouble_ok {H : Heap} {u : Value} {p : Int} {bs : List Bk} (hu : BlocksAt H u bs) (hl : bs.length <= 1048576) (Post : Value -> Heap -> Prop)
    (h : ∀ H' z, H <+: H' -> BlocksIn H.length H'.length H' z (rDbl p bs).1.2 -> Post (.tuple #[sysV (rDbl p bs).1.1 z, .int .i64 (rDbl p bs).2]) H') :
    ACalls Tryz.prog 9 [sysV p u] H Post := by
  have ou := hu.one
  refine ACalls.res ?_
  refine acalls_vc (rs := [.cell 2 26, .tmp 3]) Tryz.func9 rfl rfl Tryz.ntmps9 rfl rfl ?_
  simp (maxSteps := 1000000) [go_sem, sysV, ou]
  have hp0 : H <+: H ++ [⟨[.int .i64 p, u], true, true⟩, ⟨[.int .i64 0, .slice none 0 0], true, true⟩] := List.prefix_append _ _
  have hx0 : Holds (H ++ [⟨[.int .i64 p, u], true, true⟩, ⟨[.int .i64 0, .slice none 0 0], true, true⟩]) H.length [.int .i64 p, u] := ⟨true, by simp⟩
  have hb0 : (H ++ [(⟨[.int .i64 p, u], true, true⟩ : Blk), ⟨[.int .i64 0, .slice none 0 0], true, true⟩])[H.length + 1]? = some ⟨[.int .i64 0, .slice none 0 0], true, true⟩ := by simp
  have hlen0 : (H ++ [(⟨[.int .i64 p, u], true, true⟩ : Blk), ⟨[.int .i64 0, .slice none 0 0], true, true⟩]).length = H.length + 2 := by simp
  generalize H ++ [(⟨[.int .i64 p, u], true, true⟩ : Blk), ⟨[.int .i64 0, .slice none 0 0], true, true⟩] = H0 at hp0 hx0 hb0 hlen0 ⊢
  have bad := bad_sys hp0 (show H.length <= H.length + 1 by omega) hb0 h
  refine l01Is' (hu.pre hp0) hl _ ?_
  intro H1 hp1
  obtain ⟨d0, d1, d2⟩ := (hx0.pre hp1).sys
  cases hs : sysB p bs with
  | false =>
    obtain ⟨H9, q1, q2, fin⟩ := bad H1 1 hp1 (by rw [rDbl, hs]; simp)
    simp (maxSteps := 1000000) [go_sem, q1, q2]
    exact fin
  | true =>
    have hS := sysB_iff.1 hs
    have hpx := hS.1
    have hlb := hS.2.1
    simp (maxSteps := 1000000) [go_sem, d0, d1, d2]
    refine l01Full_ok (hu.pre (hp0.trans hp1)) hpx hl _ ?_
    intro H2 hp2
    have hp02 := hp1.trans hp2
    obtain ⟨d0, d1, d2⟩ := (hx0.pre hp02).sys
    cases hf : fullB p bs with
    | false =>
      obtain ⟨H9, q1, q2, fin⟩ := bad H2 5 hp02 (by rw [rDbl, hs, hf]; simp)
      simp (maxSteps := 1000000) [go_sem, q1, q2]
      exact fin
    | true =>
      have w1 : IntKind.i64.wrap (2 * p) = 2 * p := i64w (by omega) (by omega)
      have w2 : IntKind.i64.wrap (2 * p + 1) = 2 * p + 1 := i64w (by omega) (by omega)
      by_cases hbig : 15 < 2 * p + 1
      · obtain ⟨H9, q1, q2, fin⟩ := bad H2 3 hp02 (by rw [rDbl, hs, hf, if_pos rfl, if_pos rfl, if_neg (by omega)])
        simp (maxSteps := 1000000) [go_sem, d0, d1, d2, w1, w2, hbig, q1, q2]
        exact fin
      have hne := full_ne hpx hf
      have hr : rDbl p bs = ((2 * p + 1, sortB (dblL p.toNat bs)), 0) := by rw [rDbl, hs, hf, if_pos rfl, if_pos rfl, if_pos (by omega)]
      rw [hr] at h
      simp (maxSteps := 1000000) [go_sem, d0, d1, d2, w1, w2, hbig]
      have hn0 : bs.length ≠ 0 := fun e => hne (List.eq_nil_of_length_eq_zero e)
      obtain ⟨v, rfl⟩ : ∃ v : Nat, p = v := ⟨p.toNat, by omega⟩
      simp only [Int.toNat_natCast] at h
      have hgood := hS.good
      obtain ⟨i, o, rfl, h1, h2⟩ := hu
      have hpe : H2 <+: H2 ++ [⟨[], true, true⟩] := List.prefix_append _ _
      have hbe : (H2 ++ [(⟨[], true, true⟩ : Blk)])[H2.length]? = some ⟨[], true, true⟩ := by simp
      have hsrc := tri_src ((h1.pre (hp0.trans hp02)).pre hpe)
      simp only [srcCells, hn0, if_false] at hsrc
      obtain ⟨v4, H3, hap, hv4, hp3⟩ := emptyAppend (L := H0.length) (e := 3) (m := bs.length) (news := tri bs) (by have := hp02.length_le; omega) hbe (by omega) (by rw [tri_length])
      obtain ⟨id, hbl0, rfl⟩ : ∃ id, Bl 3 H0 H3 id (tri bs) bs.length /\ v4 = lv 3 id 0 bs.length := by
        rcases hv4.2 with ⟨e, _⟩ | ⟨id, e, _⟩ | ⟨id, hid, hv, e⟩
        · exact absurd e hn0
        · exact absurd e hn0
        · rcases e with ⟨e, _⟩ | e
          · exact absurd e hn0
          · exact ⟨id, ⟨hp02.trans (hpe.trans hp3), ⟨by rw [tri_length], .inr e⟩, hid⟩, hv⟩
      refine AWp.draw mixed [(0, false), (1, false), (3, false), (4, false), (2, true), (5, true), (6, false), (7, false)] (by kernel_rfl) ?_
      simp (maxSteps := 1000000) [go_sem, d0, d1, d2, hsrc, hap, hne, hp3]
      refine andK_intro (by omega) ?_
      refine AWp.loopVc (St := Nat × Nat) (fun s => [(1, .pointer (some ⟨H.length, 0, none⟩)), (2, .pointer (some ⟨H.length + 1, 0, none⟩)), (4, .int .i64 v), (5, lv 3 s.2 0 (bs.length + s.1 * 3)), (6, .int .i64 s.1)])
        (fun s H' => s.1 <= bs.length /\ Bl 3 H0 H' s.2 (tri (bs ++ (bs.take s.1).flatMap (dbl v))) (bs.length + s.1 * 3)) (fun s => bs.length - s.1) (0, id) ?_ ?_ ?_
      · simp [upF, Fr.get, Up.refl]
      · exact ⟨by simp, by simpa using hbl0⟩
      · rintro K ⟨s, id1⟩ H' ⟨hs', hbl⟩ hK
        simp only at hs' hbl
        obtain ⟨d0, d1, d2⟩ := (hx0.pre hbl.1).sys
        by_cases hlt : s < bs.length
        · have hbs : bs[s]? = some bs[s] := List.getElem?_eq_getElem hlt
          have hw_s : IntKind.i64.wrap ((s : Int) + 1) = (s : Int) + 1 := i64w (by omega) (by omega)
          have hgd : good v bs[s] = true := hgood bs[s] (List.getElem_mem hlt)
          obtain ⟨b, hbe⟩ : ∃ b, bs[s] = b := ⟨_, rfl⟩
          rw [hbe] at hbs hgd
          have hat := h1.pre (hp0.trans hbl.1)
          have a1 : cellsAt H' i (o + s * 3) 1 = some [.int .i64 b.a] := by simpa using hat.num hbs (j := 0) rfl
          have a2 := hat.num hbs (j := 1) (v := .int .i64 b.b) rfl
          have a3 := hat.num hbs (j := 2) (v := .int .i64 b.c) rfl
          have hg' := good_iff.1 hgd
          have wa : IntKind.i64.wrap ((v : Int) + b.a) = (v : Int) + b.a := i64w (by omega) (by omega)
          have wb : IntKind.i64.wrap ((v : Int) + b.b) = (v : Int) + b.b := i64w (by omega) (by omega)
          have wc : IntKind.i64.wrap ((v : Int) + b.c) = (v : Int) + b.c := i64w (by omega) (by omega)
          obtain ⟨list0, hl0⟩ : ∃ l, bs ++ (bs.take s).flatMap (dbl v) = l := ⟨_, rfl⟩
          obtain ⟨n1, hn1⟩ : ∃ n, bs.length + s * 3 = n := ⟨_, rfl⟩
          have hnb : n1 <= 200 := by omega
          rw [hl0, hn1] at hbl
          simp (maxSteps := 1000000) [go_sem, hlt, d2, hn1]
          refine AWp.draw mixed [(0, false), (1, false), (2, false), (3, false), (4, false), (5, false), (6, false), (7, false), (8, false), (9, false), (10, false), (11, false), (12, false), (13, false), (14, false), (15, false), (16, false), (17, false), (18, false), (19, false), (20, false)] (by kernel_rfl) ?_
          simp (maxSteps := 1000000) [go_sem, hlt, d2, a1, a2, a3, wa, wb, wc]
          refine l01Block_ok (by omega) (by omega) (by omega) _ ?_
          intro H4 hp4
          obtain ⟨c1, hc1⟩ : ∃ c, blk b.a (v + b.b) (v + b.c) = c := ⟨_, rfl⟩
          rw [hc1]
          simp (maxSteps := 1000000) [go_sem, Bk.val, wa, wb, wc]
          refine l01Block_ok (by omega) (by omega) (by omega) _ ?_
          intro H5 hp5
          obtain ⟨c2, hc2⟩ : ∃ c, blk (v + b.a) b.b (v + b.c) = c := ⟨_, rfl⟩
          rw [hc2]
          simp (maxSteps := 1000000) [go_sem, Bk.val, wa, wb, wc]
          refine l01Block_ok (by omega) (by omega) (by omega) _ ?_
          intro H6 hp6
          obtain ⟨c3, hc3⟩ : ∃ c, blk (v + b.a) (v + b.b) b.c = c := ⟨_, rfl⟩
          rw [hc3]
          obtain ⟨hsrc, H8, hap, hbl8⟩ := (hbl.pre (hp4.trans (hp5.trans hp6))).pushN (m := 3) (xs := c1.cells ++ c2.cells ++ c3.cells) (by omega) (by omega) rfl
          simp only [Bk.cells, List.cons_append, List.nil_append] at hsrc hap hbl8
          simp (maxSteps := 1000000) [go_sem, Bk.val, hw_s, hsrc, hap]
          have hnn : bs.length + (s + 1) * 3 = n1 + 3 := by omega
          refine andK_intro (by omega) (hK (s + 1, H6.length + 1) _ _ (by simp only; omega) (by simp [upF, Fr.get, Up.refl, hnn]) ⟨by simp only; omega, ?_⟩)
          have e : bs ++ (bs.take (s + 1)).flatMap (dbl v) = list0 ++ [c1, c2, c3] := by
            rw [List.take_succ_eq_append_getElem hlt, hbe, List.flatMap_append, <- List.append_assoc, hl0, <- hc1, <- hc2, <- hc3]
            simp [dbl, Int.add_comm]
          simp only [e, hnn, tri_append]
          exact hbl8
        · have : s = bs.length := by omega
          subst this
          rw [List.take_length] at hbl
          obtain ⟨list0, hl0⟩ : ∃ l, bs ++ bs.flatMap (dbl v) = l := ⟨_, rfl⟩
          obtain ⟨n1, hn1⟩ : ∃ n, bs.length + bs.length * 3 = n := ⟨_, rfl⟩
          have hnb : n1 <= 200 := by omega
          rw [hl0, hn1] at hbl
          simp (maxSteps := 1000000) [go_sem, hn1, d2]
          refine AWp.loopVc (St := Nat × Nat) (fun t => [(2, .pointer (some ⟨H.length + 1, 0, none⟩)), (4, .int .i64 v), (5, lv 3 t.2 0 (n1 + t.1)), (10, .int .i64 t.1)])
            (fun t H3 => t.1 <= v /\ Bl 3 H0 H3 t.2 (tri (list0 ++ (List.range t.1).map (dblT v))) (n1 + t.1)) (fun t => v - t.1) (0, id1) ?_ ?_ ?_
          · simp [upF, Fr.get, Up.refl]
          · exact ⟨by simp, by simpa using hbl⟩
          · rintro K2 ⟨t, id2⟩ H3 ⟨ht, hbl3⟩ hK2
            simp only at ht hbl3
            by_cases htv : t < v
            · have hw_t : IntKind.i64.wrap ((t : Int) + 1) = (t : Int) + 1 := i64w (by omega) (by omega)
              have wt : IntKind.i64.wrap ((v : Int) + t) = (v : Int) + t := i64w (by omega) (by omega)
              have wv : IntKind.i64.wrap (2 * (v : Int)) = 2 * (v : Int) := i64w (by omega) (by omega)
              simp (maxSteps := 1000000) [go_sem, htv, wt, wv]
              refine l01Block_ok (by omega) (by omega) (by omega) _ ?_
              intro H4 hp4
              have hcb : blk (t : Int) (v + t) (2 * v) = dblT v t := by rw [blk_of (by omega) (by omega)]; rfl
              rw [hcb]
              obtain ⟨hsrc, H5, hap, hbl5⟩ := (hbl3.pre hp4).push (xs := (dblT v t).cells) (by omega) rfl
              simp only [Bk.cells, dblT] at hsrc hap hbl5
              simp (maxSteps := 1000000) [go_sem, Bk.val, dblT, hw_t, hsrc, hap]
              refine andK_intro (by omega) (hK2 (t + 1, H4.length + 1) _ _ (by simp only; omega) (by simp [upF, Fr.get, Up.refl, Nat.add_assoc]) ⟨by simp only; omega, ?_⟩)
              simp only [List.range_succ, List.map_append, <- List.append_assoc, tri_append, <- Nat.add_assoc]
              simpa [tri_one, Bk.cells, dblT, tri_append] using hbl5
            · have : t = v := by omega
              subst this
              have wv : IntKind.i64.wrap (2 * (t : Int)) = 2 * (t : Int) := i64w (by omega) (by omega)
              have hlm : (dblL t bs).length = n1 + t := by
                rw [dblL, List.length_append, List.length_append, dbl_flat_len, List.length_map, List.length_range]; omega
              have hown : BlocksIn H0.length H3.length H3 (lv 3 id2 0 (n1 + t)) (dblL t bs) := by
                rw [<- hlm]
                refine OwnBlocks.inn (OwnBlocks.of_ol ?_ (by omega)) hbl3.2.2
                rw [hlm]
                have e : dblL t bs = list0 ++ (List.range t).map (dblT t) := by rw [dblL, hl0]
                rw [e]; exact hbl3.2.1
              simp (maxSteps := 1000000) [go_sem, wv, w2]
              refine l01Made_ok hown.read (by omega) _ ?_
              intro H6 z hp6 hz
              obtain ⟨q1, q2, q3, q4⟩ := put2 (cs := [.int .i64 (2 * (t : Int) + 1), z]) hp0 (show H.length <= H.length + 1 by omega) hb0 rfl (hbl3.1.trans hp6) rfl (by simp [one_int, hz.one])
              have hll := hbl3.1.length_le
              have fin := h _ z q3 (by rw [List.length_set]; exact (hz.keep q4 (fun j hj e => by have := hj.1; omega)).wider (by omega))
              simp (maxSteps := 1000000) [go_sem, sysV, q1, q2]
              exact ⟨_, Up.refl _ _, fin⟩

end Go.Proofs.YtfnegaedkomcgaaGreat
end
